import Derived.Test.YtdobflpbkfkmgaaGreatDoorR2a
import Derived.Test.YtdobflpbkfkmgaaGreatDoorMaw
namespace Go.Proofs.YtdobflpbkfkmgaaGreatDoor
open Go.RowKit Go.HK Go.FR Lib
set_option linter.unusedVariables false
set_option linter.unusedSimpArgs false
set_option linter.unusedSectionVars false
def RetNn (w:World) (n:Nat) (e:Ending) (w':World):Prop:=e = .returned (.int .i64 (n:Int)) /\ Below w.heap.size w w'
theorem nodesTs_take {l:List Tm} {j:Nat} {t:Tm} (h:l[j]? = some t):nodesTs (l.take (j + 1)) = nodesTs (l.take j) + nodesT t:=by
 rw [List.take_add_one,h,Option.toList_some,nodesTs_append]; simp [nodesTs]
theorem nodesL_take {l:List Fm} {j:Nat} {t:Fm} (h:l[j]? = some t):nodesL (l.take (j + 1)) = nodesL (l.take j) + nodesF t:=by
 rw [List.take_add_one,h,Option.toList_some,nodesL_append]; simp [nodesL]
theorem nodesTs_take_le (l:List Tm) (j:Nat):nodesTs (l.take j) <= nodesTs l:=by
 conv => rhs; rw [<- List.take_append_drop j l,nodesTs_append]
 omega
theorem nodesL_take_le (l:List Fm) (j:Nat):nodesL (l.take j) <= nodesL l:=by
 conv => rhs; rw [<- List.take_append_drop j l,nodesL_append]
 omega
theorem depthTs_app:∀ a b:List Tm,depthTs (a ++ b) = max (depthTs a) (depthTs b)
 | [],b => by simp [depthTs]
 | t :: a,b => by simp only [List.cons_append,depthTs,depthTs_app a b]; omega
theorem depthL_app:∀ a b:List Fm,depthL (a ++ b) = max (depthL a) (depthL b)
 | [],b => by simp [depthL]
 | t :: a,b => by simp only [List.cons_append,depthL,depthL_app a b]; omega
theorem depthTs_take {l:List Tm} {j:Nat} {t:Tm} (h:l[j]? = some t):depthTs (l.take (j + 1)) = max (depthTs (l.take j)) (depthT t):=by
 rw [List.take_add_one,h,Option.toList_some,depthTs_app]; simp [depthTs]
theorem depthL_take {l:List Fm} {j:Nat} {t:Fm} (h:l[j]? = some t):depthL (l.take (j + 1)) = max (depthL (l.take j)) (depthF t):=by
 rw [List.take_add_one,h,Option.toList_some,depthL_app]; simp [depthL]
theorem nodesT_eq (t:Tm):nodesT t = 1 + nodesTs t.args:=by cases t; unfold nodesT; rfl
theorem depthT_eq (t:Tm):depthT t = 1 + depthTs t.args:=by cases t; unfold depthT; rfl
theorem ts_any {S:Nat -> Prop} {W:World} {ga:Option Addr} {n c k:Nat} {ts:List Tm} {t:Tm} (h:IsTs S W ⟨ga,n,c⟩ ts) (ht:ts[k]? = some t):∃ g o,ga = some ⟨g,o,none⟩:=ts_pos h (by
 have h1:=h.len
 have h2:=(List.getElem?_eq_some_iff.1 ht).1
 simp only at h1; omega)
theorem fs_any {S:Nat -> Prop} {W:World} {ga:Option Addr} {n c k:Nat} {ts:List Fm} {t:Fm} (h:IsFs S W ⟨ga,n,c⟩ ts) (ht:ts[k]? = some t):∃ g o,ga = some ⟨g,o,none⟩:=IsFs.pos h (by
 have h1:=h.len
 have h2:=(List.getElem?_eq_some_iff.1 ht).1
 simp only at h1; omega)
def rsizeOk (l:List Tm):Prop:=∀ (w:World) (s:SL),IsTs (SN w) w s l -> nodesTs l <= 1000000 -> Calls Tryz.prog 71 #[s.v] w (RetNn w (nodesTs l))
set_option maxRecDepth 100000 in
set_option maxHeartbeats 2000000 in
theorem rsize_of (l:List Tm) (IH:∀ t ∈ l,rsizeOk t.args):rsizeOk l:=by
 intro w s hs hN
 have hlen:=hs.len
 obtain ⟨sa,sn,sc⟩:=s
 simp only at hlen
 simp only [SL.v]
 have hsn:sn <= 1000000:=by have:=nodesTs_len l; omega
 obtain ⟨R,hR⟩:∃ R,R = nodesTs l:=⟨_,rfl⟩
 rw [<- hR]
 have HR:=hid hR
 have HLEN:=hid hlen
 have HS:=hid hs
 have HIH:=hid IH
 have HN:=hid hN
 clear hR hlen hs IH hN
 go_enter Tryz.func71,Tryz.ntmps71
 go_wp2_with (fail)
 go_loopw [3,4] (fun n i wr => ∃ j m:Nat,j <= sn /\ i = .int .i64 j /\ n = .int .i64 m /\ m = nodesTs (l.take j) /\ Below w.heap.size w wr) (fun _ i _ => sn - (intOf i).toNat)
 case atStart => exact ⟨0,0,by omega,rfl,rfl,by simp [nodesTs],Below.refl _ _⟩
 case round =>
  obtain ⟨j,m,hj,rfl,rfl,hm,hB⟩:=hrel
  have HB:=hid hB
  have hm6:m <= 1000000:=by
   have h1:=nodesTs_take_le l j
   have h2:=HN.out
   have h3:=depth_leTs (l.take j)
   omega
  have HM:=hid hm
  clear hm
  by_cases hjn:(j:Int) < (sn:Int)
  ·have b0:(0:Int) <= (j:Int):=by omega
   obtain ⟨q,hq⟩:∃ q,l[j]? = some q:=⟨_,List.getElem?_eq_getElem (by rw [<- HLEN.out]; omega)⟩
   have hp:=HS.out.turn (sn_up hB)
   obtain ⟨g1,o1,hga⟩:=ts_any HS.out hq
   subst hga
   obtain ⟨u,c0,c1,c2,hu,hz⟩:=ts_at hp hq
   have hqn:nodesTs q.args <= nodesTs l:=mem_nodesT (List.mem_of_getElem? hq)
   have hcq:=HIH.out q (List.mem_of_getElem? hq) wr u hu (by have:=HN.out; omega)
   obtain ⟨k,hk⟩:∃ k,k = nodesTs q.args:=⟨_,rfl⟩
   have hk6:m + 1 + k <= 1000000:=by
    have h1:=nodesTs_take hq; have h2:=nodesTs_take_le l (j + 1); have h4:=HM.out; rw [nodesT_eq] at h1
    have h3:=HN.out
    omega
   rw [<- hk] at hcq
   have HQ:=hid hq
   have HK:=hid hk
   have HC:=hid hcq
   clear hcq hq hp hu hz hqn hk
   obtain ⟨ua,un,uc⟩:=u
   simp only [SL.v] at c2 HC
   unfold RetNn at HC
   clear c0 c1 hB
   go_wp2_with (fail)
   go_at_call 71
   with_reducible refine HC.out.mono ?_
   rintro _ w2 ⟨rfl,hB2⟩
   have HB2:=hid (HB.out.trans (hB2.mono HB.out.size))
   clear hB2 c2
   go_wp2_with (fail)
   go_roundw
   case rel => exact ⟨j + 1,m + 1 + k,by omega,by go_num,by go_num,by rw [nodesTs_take HQ.out,nodesT_eq,<- HM.out,<- HK.out]; omega,HB2.out⟩
   case measure => simp [intOf]; omega
  ·obtain rfl:j = sn:=by omega
   have hr:R = m:=by rw [HR.out,HM.out,HLEN.out,List.take_length]
   have HR2:=hid hr
   clear hr hB
   go_wp2_with (fail)
   go_ret
   exact ⟨by rw [HR2.out]; rfl,HB.out⟩
mutual
theorem rsize_t:∀ t:Tm,rsizeOk t.args
 | .mk v nm args => rsize_of args (rsize_l args)
theorem rsize_l:∀ l:List Tm,∀ t ∈ l,rsizeOk t.args
 | [],t,h => by cases h
 | u :: r,t,h => by
  rcases List.mem_cons.1 h with h | h
  ·rw [h]; exact rsize_t u
  ·exact rsize_l r t h
end
theorem rsize_all (l:List Tm):rsizeOk l:=rsize_of l (rsize_l l)
def rdeepOk (l:List Tm):Prop:=∀ (w:World) (s:SL),IsTs (SN w) w s l -> nodesTs l <= 1000000 -> Calls Tryz.prog 72 #[s.v] w (RetNn w (depthTs l))
set_option maxRecDepth 100000 in
set_option maxHeartbeats 2000000 in
theorem rdeep_of (l:List Tm) (IH:∀ t ∈ l,rdeepOk t.args):rdeepOk l:=by
 intro w s hs hN
 have hlen:=hs.len
 obtain ⟨sa,sn,sc⟩:=s
 simp only at hlen
 simp only [SL.v]
 have hsn:sn <= 1000000:=by have:=nodesTs_len l; omega
 obtain ⟨R,hR⟩:∃ R,R = depthTs l:=⟨_,rfl⟩
 rw [<- hR]
 have HR:=hid hR
 have HLEN:=hid hlen
 have HS:=hid hs
 have HIH:=hid IH
 have HN:=hid hN
 clear hR hlen hs IH hN
 go_enter Tryz.func72,Tryz.ntmps72
 go_wp2_with (fail)
 go_loopw [3,4] (fun n i wr => ∃ j m:Nat,j <= sn /\ i = .int .i64 j /\ n = .int .i64 m /\ m = depthTs (l.take j) /\ Below w.heap.size w wr) (fun _ i _ => sn - (intOf i).toNat)
 case atStart => exact ⟨0,0,by omega,rfl,rfl,by simp [depthTs],Below.refl _ _⟩
 case round =>
  obtain ⟨j,m,hj,rfl,rfl,hm,hB⟩:=hrel
  have HB:=hid hB
  have hm6:m <= 1000000:=by
   have h1:=nodesTs_take_le l j
   have h2:=HN.out
   have h3:=depth_leTs (l.take j)
   omega
  have HM:=hid hm
  clear hm
  by_cases hjn:(j:Int) < (sn:Int)
  ·have b0:(0:Int) <= (j:Int):=by omega
   obtain ⟨q,hq⟩:∃ q,l[j]? = some q:=⟨_,List.getElem?_eq_getElem (by rw [<- HLEN.out]; omega)⟩
   have hp:=HS.out.turn (sn_up hB)
   obtain ⟨g1,o1,hga⟩:=ts_any HS.out hq
   subst hga
   obtain ⟨u,c0,c1,c2,hu,hz⟩:=ts_at hp hq
   have hqn:nodesTs q.args <= nodesTs l:=mem_nodesT (List.mem_of_getElem? hq)
   have hcq:=HIH.out q (List.mem_of_getElem? hq) wr u hu (by have:=HN.out; omega)
   obtain ⟨k,hk⟩:∃ k,k = depthTs q.args:=⟨_,rfl⟩
   have hk6:k <= 1000000:=by
    have h1:=depth_leTs q.args
    have h3:=HN.out
    omega
   rw [<- hk] at hcq
   have HQ:=hid hq
   have HK:=hid hk
   have HC:=hid hcq
   clear hcq hq hp hu hz hqn hk
   obtain ⟨ua,un,uc⟩:=u
   simp only [SL.v] at c2 HC
   unfold RetNn at HC
   clear c0 c1 hB
   go_wp2_with (fail)
   go_at_call 72
   with_reducible refine HC.out.mono ?_
   rintro _ w2 ⟨rfl,hB2⟩
   have HB2:=hid (HB.out.trans (hB2.mono HB.out.size))
   clear hB2 c2
   by_cases hgt:(m:Int) < (k:Int) + 1
   ·go_wp2_with (fail)
    go_roundw
    case rel => exact ⟨j + 1,k + 1,by omega,by go_num,by go_num,by rw [depthTs_take HQ.out,depthT_eq,<- HM.out,<- HK.out]; omega,HB2.out⟩
    case measure => simp [intOf]; omega
   ·go_wp2_with (fail)
    go_roundw
    case rel => exact ⟨j + 1,m,by omega,by go_num,by go_num,by rw [depthTs_take HQ.out,depthT_eq,<- HM.out,<- HK.out]; omega,HB2.out⟩
    case measure => simp [intOf]; omega
  ·obtain rfl:j = sn:=by omega
   have hr:R = m:=by rw [HR.out,HM.out,HLEN.out,List.take_length]
   have HR2:=hid hr
   clear hr hB
   go_wp2_with (fail)
   go_ret
   exact ⟨by rw [HR2.out]; rfl,HB.out⟩
mutual
theorem rdeep_t:∀ t:Tm,rdeepOk t.args
 | .mk v nm args => rdeep_of args (rdeep_l args)
theorem rdeep_l:∀ l:List Tm,∀ t ∈ l,rdeepOk t.args
 | [],t,h => by cases h
 | u :: r,t,h => by
  rcases List.mem_cons.1 h with h | h
  ·rw [h]; exact rdeep_t u
  ·exact rdeep_l r t h
end
theorem rdeep_all (l:List Tm):rdeepOk l:=rdeep_of l (rdeep_l l)
def rnodesOk (f:Fm):Prop:=∀ (w:World) (a s:SL),IsTs (SN w) w a f.args -> IsFs (SN w) w s f.subs -> nodesF f <= 1000000 -> Calls Tryz.prog 39 #[.agg #[.int .u8 (f.op:Int),.string f.name,a.v,s.v]] w (RetNn w (nodesF f))
set_option maxRecDepth 100000 in
set_option maxHeartbeats 2000000 in
theorem rnodes_of (op:Nat) (nm:ByteArray) (args:List Tm) (subs:List Fm) (IH:∀ f ∈ subs,rnodesOk f):rnodesOk (.mk op nm args subs):=by
 intro w a s ha hs hN
 simp only [FR.Fm.op,FR.Fm.name,FR.Fm.args,FR.Fm.subs] at ha hs ⊢
 have hN2:1 + nodesTs args + nodesL subs <= 1000000:=by unfold nodesF at hN; exact hN
 have hlen:=hs.len
 obtain ⟨aa,an,ac⟩:=a
 obtain ⟨sa,sn,sc⟩:=s
 simp only at hlen
 simp only [SL.v]
 have hsn:sn <= 1000000:=by have:=nodesL_len subs; omega
 obtain ⟨R,hR⟩:∃ R,R = nodesF (.mk op nm args subs):=⟨_,rfl⟩
 rw [<- hR]
 have hbx:=bl_al9 (W:=w) (.cells #[.int .u8 (op:Int),.string nm,.slice aa an ac,.slice sa sn sc] 28)
 have hsz:=rsize_all args (w.alloc (.cells #[.int .u8 (op:Int),.string nm,.slice aa an ac,.slice sa sn sc] 28)) ⟨aa,an,ac⟩ (ha.turn (sn_up hbx)) (by omega)
 obtain ⟨ks,hks⟩:∃ k,k = nodesTs args:=⟨_,rfl⟩
 have hks6:ks <= 1000000:=by have:=depth_leTs args; omega
 rw [<- hks] at hsz
 unfold RetNn at hsz
 simp only [SL.v] at hsz
 have HSZ:=hid hsz
 have HKS:=hid hks
 have HR:=hid hR
 have HLEN:=hid hlen
 have HS:=hid hs
 have HIH:=hid IH
 have HN:=hid hN2
 clear hR hlen hs IH hN hN2 ha hsz hks hbx
 go_enter Tryz.func39,Tryz.ntmps39
 go_wp2_with (fail)
 go_at_call 71
 with_reducible refine HSZ.out.mono ?_
 rintro _ w1 ⟨rfl,hB1⟩
 have hk:=(hB1.block _ (HK.blk_lt (HK.blk_new w (.cells #[.int .u8 (op:Int),.string nm,.slice aa an ac,.slice sa sn sc] 28)))).trans (HK.blk_new w (.cells #[.int .u8 (op:Int),.string nm,.slice aa an ac,.slice sa sn sc] 28))
 have HK1:=hid hk
 have HB1:=hid ((bl_al9 (W:=w) (.cells #[.int .u8 (op:Int),.string nm,.slice aa an ac,.slice sa sn sc] 28)).trans (hB1.mono (bl_al9 (W:=w) (.cells #[.int .u8 (op:Int),.string nm,.slice aa an ac,.slice sa sn sc] 28)).size))
 have z0:=HK.blk_cell hk 0
 have z1:=HK.blk_cell hk 1
 have z2:=HK.blk_cell hk 2
 have z3:=HK.blk_cell hk 3
 clear hk hB1
 go_wp2_with (fail)
 go_loopw [3,4] (fun n i wr => ∃ j m:Nat,j <= sn /\ i = .int .i64 j /\ n = .int .i64 m /\ m = 1 + ks + nodesL (subs.take j) /\ Below w1.heap.size w1 wr) (fun _ i _ => sn - (intOf i).toNat)
 case atStart => exact ⟨0,1 + ks,by omega,rfl,by go_num,by simp [nodesL],Below.refl _ _⟩
 case round =>
  obtain ⟨j,m,hj,rfl,rfl,hm,hB⟩:=hrel
  have HB:=hid hB
  have HBW:=hid (HB1.out.trans (hB.mono HB1.out.size))
  have hm6:m <= 1000001:=by
   have h1:=nodesL_take_le subs j
   have h2:=HN.out
   have h3:=depth_leL (subs.take j)
   have h4:=HKS.out
   have h5:=depth_leTs args
   omega
  have HM:=hid hm
  have hk:=(hB.block _ (HK.blk_lt HK1.out)).trans HK1.out
  clear hm z0 z1 z2 z3
  have z0:=HK.blk_cell hk 0
  have z1:=HK.blk_cell hk 1
  have z2:=HK.blk_cell hk 2
  have z3:=HK.blk_cell hk 3
  clear hk
  by_cases hjn:(j:Int) < (sn:Int)
  ·have b0:(0:Int) <= (j:Int):=by omega
   obtain ⟨q,hq⟩:∃ q,subs[j]? = some q:=⟨_,List.getElem?_eq_getElem (by rw [<- HLEN.out]; omega)⟩
   have hp:=HS.out.turn (sn_up HBW.out)
   obtain ⟨g1,o1,hga⟩:=fs_any HS.out hq
   subst hga
   obtain ⟨u,d,c0,c1,c2,c3,hu,hd,ho,hz⟩:=fs_at hp hq
   have hqn:nodesF q <= nodesL subs:=mem_nodesF (List.mem_of_getElem? hq)
   have hcq:=HIH.out q (List.mem_of_getElem? hq) wr u d hu hd (by have:=HN.out; omega)
   obtain ⟨k,hk⟩:∃ k,k = nodesF q:=⟨_,rfl⟩
   have hk6:m + k <= 1000000:=by
    have h0:=depth_leF q
    have h1:=nodesL_take hq
    have h2:=nodesL_take_le subs (j + 1)
    have h4:=HM.out
    have h3:=HN.out
    have h5:=HKS.out
    omega
   rw [<- hk] at hcq
   have HQ:=hid hq
   have HKQ:=hid hk
   have HC:=hid hcq
   clear hcq hq hp hu hd ho hz hqn hk
   obtain ⟨qo,qn,qa,qs⟩:=q
   obtain ⟨ua,un,uc⟩:=u
   obtain ⟨da,dn,dc⟩:=d
   simp only [FR.Fm.op,FR.Fm.name,SL.v] at c0 c1 c2 c3 HC
   unfold RetNn at HC
   clear hB
   go_wp2_with (fail)
   go_at_call 39
   with_reducible refine HC.out.mono ?_
   rintro _ w2 ⟨rfl,hB2⟩
   have HB2:=hid (HB.out.trans (hB2.mono HB.out.size))
   clear hB2 c0 c1 c2 c3
   go_wp2_with (fail)
   go_roundw
   case rel => exact ⟨j + 1,m + k,by omega,by go_num,by go_num,by rw [nodesL_take HQ.out,<- HKQ.out]; have h1:=HM.out; omega,HB2.out⟩
   case measure => simp [intOf]; omega
  ·obtain rfl:j = sn:=by omega
   have hr:R = m:=by rw [HR.out]; unfold nodesF; have h1:=HM.out; rw [HLEN.out,List.take_length] at h1; have h2:=HKS.out; omega
   have HR2:=hid hr
   clear hr hB
   go_wp2_with (fail)
   go_ret
   exact ⟨by rw [HR2.out]; rfl,HBW.out⟩
mutual
theorem rnodes_t:∀ t:Fm,rnodesOk t
 | .mk op nm args subs => rnodes_of op nm args subs (rnodes_l subs)
theorem rnodes_l:∀ l:List Fm,∀ t ∈ l,rnodesOk t
 | [],t,h => by cases h
 | u :: r,t,h => by
  rcases List.mem_cons.1 h with h | h
  ·rw [h]; exact rnodes_t u
  ·exact rnodes_l r t h
end
def rdepthOk (f:Fm):Prop:=∀ (w:World) (a s:SL),IsTs (SN w) w a f.args -> IsFs (SN w) w s f.subs -> nodesF f <= 1000000 -> Calls Tryz.prog 40 #[.agg #[.int .u8 (f.op:Int),.string f.name,a.v,s.v]] w (RetNn w (depthF f))
set_option maxRecDepth 100000 in
set_option maxHeartbeats 2000000 in
theorem rdepth_of (op:Nat) (nm:ByteArray) (args:List Tm) (subs:List Fm) (IH:∀ f ∈ subs,rdepthOk f):rdepthOk (.mk op nm args subs):=by
 intro w a s ha hs hN
 simp only [FR.Fm.op,FR.Fm.name,FR.Fm.args,FR.Fm.subs] at ha hs ⊢
 have hN2:1 + nodesTs args + nodesL subs <= 1000000:=by unfold nodesF at hN; exact hN
 have hlen:=hs.len
 obtain ⟨aa,an,ac⟩:=a
 obtain ⟨sa,sn,sc⟩:=s
 simp only at hlen
 simp only [SL.v]
 have hsn:sn <= 1000000:=by have:=nodesL_len subs; omega
 obtain ⟨R,hR⟩:∃ R,R = depthF (.mk op nm args subs):=⟨_,rfl⟩
 rw [<- hR]
 have hbx:=bl_al9 (W:=w) (.cells #[.int .u8 (op:Int),.string nm,.slice aa an ac,.slice sa sn sc] 28)
 have hsz:=rdeep_all args (w.alloc (.cells #[.int .u8 (op:Int),.string nm,.slice aa an ac,.slice sa sn sc] 28)) ⟨aa,an,ac⟩ (ha.turn (sn_up hbx)) (by omega)
 obtain ⟨ks,hks⟩:∃ k,k = depthTs args:=⟨_,rfl⟩
 have hks6:ks <= 1000000:=by have:=depth_leTs args; omega
 rw [<- hks] at hsz
 unfold RetNn at hsz
 simp only [SL.v] at hsz
 have HSZ:=hid hsz
 have HKS:=hid hks
 have HR:=hid hR
 have HLEN:=hid hlen
 have HS:=hid hs
 have HIH:=hid IH
 have HN:=hid hN2
 clear hR hlen hs IH hN hN2 ha hsz hks hbx
 go_enter Tryz.func40,Tryz.ntmps40
 go_wp2_with (fail)
 go_at_call 72
 with_reducible refine HSZ.out.mono ?_
 rintro _ w1 ⟨rfl,hB1⟩
 have hk:=(hB1.block _ (HK.blk_lt (HK.blk_new w (.cells #[.int .u8 (op:Int),.string nm,.slice aa an ac,.slice sa sn sc] 28)))).trans (HK.blk_new w (.cells #[.int .u8 (op:Int),.string nm,.slice aa an ac,.slice sa sn sc] 28))
 have HK1:=hid hk
 have HB1:=hid ((bl_al9 (W:=w) (.cells #[.int .u8 (op:Int),.string nm,.slice aa an ac,.slice sa sn sc] 28)).trans (hB1.mono (bl_al9 (W:=w) (.cells #[.int .u8 (op:Int),.string nm,.slice aa an ac,.slice sa sn sc] 28)).size))
 have z0:=HK.blk_cell hk 0
 have z1:=HK.blk_cell hk 1
 have z2:=HK.blk_cell hk 2
 have z3:=HK.blk_cell hk 3
 clear hk hB1
 go_wp2_with (fail)
 go_loopw [3,4] (fun n i wr => ∃ j m:Nat,j <= sn /\ i = .int .i64 j /\ n = .int .i64 m /\ m = max ks (depthL (subs.take j)) /\ Below w1.heap.size w1 wr) (fun _ i _ => sn - (intOf i).toNat)
 case atStart => exact ⟨0,ks,by omega,rfl,by go_num,by simp [depthL],Below.refl _ _⟩
 case round =>
  obtain ⟨j,m,hj,rfl,rfl,hm,hB⟩:=hrel
  have HB:=hid hB
  have HBW:=hid (HB1.out.trans (hB.mono HB1.out.size))
  have hm6:m <= 1000001:=by
   have h1:=nodesL_take_le subs j
   have h2:=HN.out
   have h3:=depth_leL (subs.take j)
   have h4:=HKS.out
   have h5:=depth_leTs args
   omega
  have HM:=hid hm
  have hk:=(hB.block _ (HK.blk_lt HK1.out)).trans HK1.out
  clear hm z0 z1 z2 z3
  have z0:=HK.blk_cell hk 0
  have z1:=HK.blk_cell hk 1
  have z2:=HK.blk_cell hk 2
  have z3:=HK.blk_cell hk 3
  clear hk
  by_cases hjn:(j:Int) < (sn:Int)
  ·have b0:(0:Int) <= (j:Int):=by omega
   obtain ⟨q,hq⟩:∃ q,subs[j]? = some q:=⟨_,List.getElem?_eq_getElem (by rw [<- HLEN.out]; omega)⟩
   have hp:=HS.out.turn (sn_up HBW.out)
   obtain ⟨g1,o1,hga⟩:=fs_any HS.out hq
   subst hga
   obtain ⟨u,d,c0,c1,c2,c3,hu,hd,ho,hz⟩:=fs_at hp hq
   have hqn:nodesF q <= nodesL subs:=mem_nodesF (List.mem_of_getElem? hq)
   have hcq:=HIH.out q (List.mem_of_getElem? hq) wr u d hu hd (by have:=HN.out; omega)
   obtain ⟨k,hk⟩:∃ k,k = depthF q:=⟨_,rfl⟩
   have hk6:k <= 1000000:=by
    have h0:=depth_leF q
    have h1:=nodesL_take hq
    have h2:=nodesL_take_le subs (j + 1)
    have h4:=HM.out
    have h3:=HN.out
    have h5:=HKS.out
    omega
   rw [<- hk] at hcq
   have HQ:=hid hq
   have HKQ:=hid hk
   have HC:=hid hcq
   clear hcq hq hp hu hd ho hz hqn hk
   obtain ⟨qo,qn,qa,qs⟩:=q
   obtain ⟨ua,un,uc⟩:=u
   obtain ⟨da,dn,dc⟩:=d
   simp only [FR.Fm.op,FR.Fm.name,SL.v] at c0 c1 c2 c3 HC
   unfold RetNn at HC
   clear hB
   go_wp2_with (fail)
   go_at_call 40
   with_reducible refine HC.out.mono ?_
   rintro _ w2 ⟨rfl,hB2⟩
   have HB2:=hid (HB.out.trans (hB2.mono HB.out.size))
   clear hB2 c0 c1 c2 c3
   by_cases hgt:(m:Int) < (k:Int)
   ·go_wp2_with (fail)
    go_roundw
    case rel => exact ⟨j + 1,k,by omega,by go_num,by go_num,by rw [depthL_take HQ.out,<- HKQ.out]; have h1:=HM.out; omega,HB2.out⟩
    case measure => simp [intOf]; omega
   ·go_wp2_with (fail)
    go_roundw
    case rel => exact ⟨j + 1,m,by omega,by go_num,by go_num,by rw [depthL_take HQ.out,<- HKQ.out]; have h1:=HM.out; omega,HB2.out⟩
    case measure => simp [intOf]; omega
  ·obtain rfl:j = sn:=by omega
   have hr:R = 1 + m:=by rw [HR.out]; unfold depthF; have h1:=HM.out; rw [HLEN.out,List.take_length] at h1; have h2:=HKS.out; omega
   have HR2:=hid hr
   clear hr hB
   go_wp2_with (fail)
   go_ret
   exact ⟨by rw [HR2.out]; go_num,HBW.out⟩
mutual
theorem rdepth_t:∀ t:Fm,rdepthOk t
 | .mk op nm args subs => rdepth_of op nm args subs (rdepth_l subs)
theorem rdepth_l:∀ l:List Fm,∀ t ∈ l,rdepthOk t
 | [],t,h => by cases h
 | u :: r,t,h => by
  rcases List.mem_cons.1 h with h | h
  ·rw [h]; exact rdepth_t u
  ·exact rdepth_l r t h
end
end Go.Proofs.YtdobflpbkfkmgaaGreatDoor
