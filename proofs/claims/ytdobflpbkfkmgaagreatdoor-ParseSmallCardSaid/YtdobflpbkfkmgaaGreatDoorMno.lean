import Derived.Test.YtdobflpbkfkmgaaGreatDoorSam
import Derived.Test.YtdobflpbkfkmgaaGreatDoorRng
import Derived.Laws.EntriesVeiled
import Derived.StillTailTactics
namespace Go.Proofs.YtdobflpbkfkmgaaGreatDoor
open Go.RowKit Go.HK Go.FR Lib
set_option linter.unusedVariables false
set_option linter.unusedSimpArgs false
set_option linter.unusedSectionVars false
set_option maxRecDepth 100000 in
set_option maxHeartbeats 1000000 in
theorem one_call (w:World) (nb lb n:Nat) (b:Bool) (nm:ByteArray) (a:Option Addr) (an ac:Nat) (hn:w.heap[nb]? = some (.cells #[.int .i64 (n:Int)] 3 (0,0))) (hl:w.heap[lb]? = some (.cells #[.int .i64 9223372036854775807] 3 (0,0))) (hne:nb ≠ lb) (hz:n + 1 <= 1000000) :
  Calls Tryz.prog 95 #[.agg #[.bool b,.string nm,.slice a an ac],.pointer (some ⟨nb,0,none⟩),.pointer (some ⟨lb,0,none⟩)] w fun e w' => e = .returned (.bool true) /\ FJ nb w w' /\ w'.heap[nb]? = some (.cells #[.int .i64 ((n:Int) + 1)] 3 (0,0)):=by
 have l1:=HK.blk_lt hn
 have l2:=HK.blk_lt hl
 have c0:=HK.blk_cell hn 0
 have c1:=HK.blk_cell hl 0
 have f0:=HK.blk_frozen hn 0
 have HN:=hid hn
 have hw:wrap64 ((n:Int) + 1) = (n:Int) + 1:=by exact IntWalk.wrap64_in _ (by omega)
 have hd:decide ((n:Int) + 1 <= 9223372036854775807) = true:=decide_eq_true (by omega)
 have m0:¬ w.heap.size = nb:=by omega
 have m1:¬ w.heap.size = lb:=by omega
 have m2:¬ nb = lb:=hne
 clear hn hl hz
 go_enter Tryz.func95,Tryz.ntmps95
 go_wp2_with (fail)
 go_ret
 refine ⟨rfl,?_,?_⟩
 ·exact ((HK.Frm.refl (fun k => k = nb) w).setCell (p:=⟨nb,0,none⟩) (.inl rfl) _).alloc _
 ·exact HK.blk_alloc (HK.blk_set HN.out 0 _) _
def VtOk (l:List Tm):Prop:=∀ (w:World) (s:SL) (nb lb n:Nat),IsTs (fun k => k ≠ nb /\ k < w.heap.size) w s l -> w.heap[nb]? = some (.cells #[.int .i64 (n:Int)] 3 (0,0)) -> w.heap[lb]? = some (.cells #[.int .i64 9223372036854775807] 3 (0,0)) -> nb ≠ lb -> n + nodesTs l <= 1000000 ->
 Calls Tryz.prog 94 #[s.v,.func (.func 95) #[] #[.pointer (some ⟨nb,0,none⟩),.pointer (some ⟨lb,0,none⟩)]] w fun e w' => e = .returned (.bool true) /\ FJ nb w w' /\ w'.heap[nb]? = some (.cells #[.int .i64 ((n + nodesTs l:Nat):Int)] 3 (0,0))
theorem nodes_take {l:List Tm} {k:Nat} {t:Tm} (h:l[k]? = some t):nodesTs (l.take (k + 1)) = nodesTs (l.take k) + nodesT t /\ nodesTs (l.take k) + nodesT t <= nodesTs l:=by
 have h1:nodesTs (l.take (k + 1)) = nodesTs (l.take k) + nodesT t:=by rw [take_one h,nodesTs_append]; simp [nodesTs]
 refine ⟨h1,?_⟩
 have h2:=split_at h
 have:nodesTs l = nodesTs (l.take k) + (nodesT t + nodesTs (l.drop (k + 1))):=by conv => lhs; rw [h2]; rw [nodesTs_append,nodesTs_append]; simp [nodesTs]
 omega
set_option maxRecDepth 100000 in
set_option maxHeartbeats 4000000 in
theorem vt_of (l:List Tm) (IH:∀ t ∈ l,VtOk t.args):VtOk l:=by
 intro w s nb lb n hs hnb hlb hne hN
 have hn1:=hs.len
 obtain ⟨sa,n2,sc⟩:=s
 simp only at hn1
 have hn6:n2 <= 1000000:=by have:=nodesTs_len l; omega
 simp only [SL.v]
 have HS1:=hid hs
 have HIH:=hid IH
 have HN:=hid hn1
 have HNN:=hid hN
 have HNB:=hid hnb
 have HLB:=hid hlb
 have HNE:=hid hne
 clear hs IH hn1 hN hnb hlb hne
 go_enter Tryz.func94,Tryz.ntmps94
 go_wp2_with (fail)
 go_loopw [9] (fun i wr => ∃ j:Nat,j <= n2 /\ i = .int .i64 j /\ FJ nb w wr /\ wr.heap[nb]? = some (.cells #[.int .i64 ((n + nodesTs (l.take j):Nat):Int)] 3 (0,0))) (fun i _ => n2 - (intOf i).toNat)
 case atStart => exact ⟨0,by omega,rfl,HK.Frm.refl _ _,by simpa [nodesTs] using HNB.out⟩
 case round =>
  obtain ⟨j,hj,rfl,hF,hnj⟩:=hrel
  by_cases hjn:(j:Int) < (n2:Int)
  ·have b0:(0:Int) <= (j:Int):=by omega
   obtain ⟨q,hq⟩:∃ q,l[j]? = some q:=⟨_,List.getElem?_eq_getElem (by rw [<- HN.out]; omega)⟩
   obtain ⟨g1,o1,hga⟩:=ts_pos HS1.out (show 0 < n2 by omega)
   subst hga
   have hp1:=HS1.out.turn (T:=fun k => k ≠ nb /\ k < wr.heap.size) (W':=wr) (fun k hk => ⟨⟨hk.1,Nat.lt_of_lt_of_le hk.2 hF.size⟩,hF.block k hk.2 hk.1⟩)
   obtain ⟨u,c0,c1,c2,hu,hz⟩:=ts_at hp1 hq
   obtain ⟨k1,k2⟩:=nodes_take hq
   have hlj:=hF.heap HLB.out HNE.out.symm
   obtain ⟨x,hx⟩:∃ x,x = n + nodesTs (l.take j):=⟨_,rfl⟩
   rw [<- hx] at hnj
   have hq1:1 + nodesTs q.args = nodesT q:=by cases q; rfl
   have hih:=HIH.out q (List.mem_of_getElem? hq)
   obtain ⟨qb,qn,qa⟩:=q
   obtain ⟨ua,un,uc⟩:=u
   simp only [FR.Tm.var,FR.Tm.name,FR.Tm.args,SL.v] at c0 c1 c2 hih hu hq1
   have hnl:=HK.blk_lt hnj
   have hbx:=HK.blk_new wr (.cells #[.bool qb,.string qn,.slice ua un uc] 36)
   have hone:=one_call (wr.alloc (.cells #[.bool qb,.string qn,.slice ua un uc] 36)) nb lb x qb qn ua un uc (HK.blk_alloc hnj _) (HK.blk_alloc hlj _) HNE.out (by have:=HNN.out; omega)
   have HONE:=hid hone
   have HIH2:=hid hih
   have HU:=hid hu
   have HF:=hid hF
   have HBX:=hid hbx
   have HLJ:=hid hlj
   have HX:=hid hx
   have HK12:=hid (And.intro k1 k2)
   have HQ1:=hid hq1
   have HNL:=hid hnl
   clear hone hih hu hF hbx hlj hx k1 k2 hq1 hnl hz hnj hq hp1
   go_wp2_with (fail)
   go_at_call 95
   with_reducible refine HONE.out.mono ?_
   rintro e w1 ⟨rfl,hF1,hn1⟩
   have hb1:=hF1.heap HBX.out (by have:=HNL.out; omega)
   have d2:=HK.blk_cell hb1 2
   have hl1:=hF1.heap (HK.blk_alloc HLJ.out (.cells #[.bool qb,.string qn,.slice ua un uc] 36)) HNE.out.symm
   have hcall:=HIH2.out w1 ⟨ua,un,uc⟩ nb lb (x + 1) (HU.out.turn (fun k hk => ⟨⟨hk.1,Nat.lt_of_lt_of_le hk.2 (Nat.le_trans (by simp) hF1.size)⟩,(hF1.block k (by simp; omega) hk.1).trans (Below.heap_alloc _ _ _ hk.2)⟩)) hn1 hl1 HNE.out (by have:=HNN.out; have:=HK12.out; have:=HQ1.out; have:=HX.out; omega)
   simp only [SL.v] at hcall
   have HC:=hid hcall
   have HF1:=hid hF1
   clear hcall hF1 hn1 hb1 hl1
   go_wp2_with (fail)
   go_at_call 94
   with_reducible refine HC.out.mono ?_
   rintro e w2 ⟨rfl,hF2,hn2⟩
   have HF2:=hid hF2
   have HN2:=hid hn2
   clear hF2 hn2
   go_wp2_with (fail)
   go_roundw
   case rel => exact ⟨j + 1,by omega,by go_num,HF.out.trans ((((HK.Frm.refl (fun k => k = nb) wr).alloc _).trans HF1.out).trans HF2.out),by rw [HN2.out,show x + 1 + nodesTs qa = n + nodesTs (l.take (j + 1)) by rw [HK12.out.1,HX.out]; have:=HQ1.out; omega]⟩
   case measure => simp [intOf]; omega
  ·obtain rfl:j = n2:=by omega
   have htk:l.take j = l:=List.take_of_length_le (by rw [HN.out]; exact Nat.le_refl _)
   rw [htk] at hnj
   have HF:=hid hF
   have HNJ:=hid hnj
   clear hF hnj
   go_wp2_with (fail)
   go_ret
   exact ⟨rfl,HF.out,HNJ.out⟩
mutual
theorem vt_t:∀ t:Tm,VtOk t.args
 | .mk _ _ args => vt_of args (vt_l args)
theorem vt_l:∀ l:List Tm,∀ t ∈ l,VtOk t.args
 | [],_,h => by cases h
 | x :: r,t,h => by
  rcases List.mem_cons.1 h with he | h
  ·rw [he]; exact vt_t x
  ·exact vt_l r t h
end
theorem vt_ok (l:List Tm):VtOk l:=vt_of l (vt_l l)
def DpOk (l:List Tm):Prop:=∀ (w:World) (s:SL),IsTs (SN w) w s l -> nodesTs l <= 1000000 -> Calls Tryz.prog 63 #[s.v] w fun e w' => e = .returned (.int .i64 (depthTs l:Int)) /\ Below w.heap.size w w'
theorem depth_append:∀ a b:List Tm,depthTs (a ++ b) = max (depthTs a) (depthTs b)
 | [],b => by simp [depthTs]
 | t :: a,b => by simp only [List.cons_append,depthTs,depth_append a b]; omega
theorem depth_take {l:List Tm} {k:Nat} {t:Tm} (h:l[k]? = some t):depthTs (l.take (k + 1)) = max (depthTs (l.take k)) (depthT t):=by
 rw [take_one h,depth_append]; simp [depthTs]
set_option maxRecDepth 100000 in
set_option maxHeartbeats 4000000 in
theorem dp_of (l:List Tm) (IH:∀ t ∈ l,DpOk t.args):DpOk l:=by
 intro w s hs hN
 have hn1:=hs.len
 obtain ⟨sa,n2,sc⟩:=s
 simp only at hn1
 have hn6:n2 <= 1000000:=by have:=nodesTs_len l; omega
 simp only [SL.v]
 have HS1:=hid hs
 have HIH:=hid IH
 have HN:=hid hn1
 have HNN:=hid hN
 clear hs IH hn1 hN
 go_enter Tryz.func63,Tryz.ntmps63
 go_wp2_with (fail)
 go_loopw [3,8] (fun d i wr => ∃ j:Nat,j <= n2 /\ i = .int .i64 j /\ d = .int .i64 ((depthTs (l.take j):Nat):Int) /\ Below w.heap.size w wr) (fun _ i _ => n2 - (intOf i).toNat)
 case atStart => exact ⟨0,by omega,rfl,by simp [depthTs],Below.refl _ _⟩
 case round =>
  obtain ⟨j,hj,rfl,rfl,hB⟩:=hrel
  by_cases hjn:(j:Int) < (n2:Int)
  ·have b0:(0:Int) <= (j:Int):=by omega
   obtain ⟨q,hq⟩:∃ q,l[j]? = some q:=⟨_,List.getElem?_eq_getElem (by rw [<- HN.out]; omega)⟩
   obtain ⟨g1,o1,hga⟩:=ts_pos HS1.out (show 0 < n2 by omega)
   subst hga
   have hp1:=HS1.out.turn (sn_up hB)
   obtain ⟨u,c0,c1,c2,hu,hz⟩:=ts_at hp1 hq
   have k1:=depth_take hq
   have kd:=nodes_take hq
   obtain ⟨x,hx⟩:∃ x,x = depthTs (l.take j):=⟨_,rfl⟩
   have hxl:x <= 1000000:=by have:=depth_leTs (l.take j); have:=HNN.out; omega
   rw [<- hx]
   have hq1:1 + depthTs q.args = depthT q:=by cases q; rfl
   have hq2:nodesTs q.args <= 1000000:=by
    have:1 + nodesTs q.args = nodesT q:=by cases q; rfl
    have:=HNN.out; omega
   have hq3:=depth_leTs q.args
   have hih:=fun (W:World) (hW:Below wr.heap.size wr W) => HIH.out q (List.mem_of_getElem? hq) W u (hu.turn (sn_up hW)) hq2
   obtain ⟨y,hy⟩:∃ y,y = depthTs q.args:=⟨_,rfl⟩
   rw [<- hy] at hih hq1 hq3
   obtain ⟨qb,qn,qa⟩:=q
   obtain ⟨ua,un,uc⟩:=u
   simp only [FR.Tm.var,FR.Tm.name,FR.Tm.args,SL.v] at c0 c1 c2 hih hu hq2 hq3
   have hyl:y <= 1000000:=by omega
   have hw:wrap64 ((y:Int) + 1) = (y:Int) + 1:=IntWalk.wrap64_in _ (by omega)
   have HIH2:=hid hih
   have HB:=hid hB
   have HX:=hid hx
   have HK1:=hid k1
   have HQ1:=hid hq1
   clear hih hu hB hx k1 kd hq1 hq2 hq3 hz hq hp1 hy
   by_cases hm:(x:Int) < (y:Int) + 1
   ·go_wp2_with (fail)
    go_at_call 63
    with_reducible refine (HIH2.out _ ((Below.refl _ wr).alloc (Nat.le_refl _) _)).mono ?_
    rintro e w1 ⟨rfl,hB1⟩
    have HB1:=hid hB1
    clear hB1
    go_wp2_with (fail)
    go_roundw
    case rel =>
     refine ⟨j + 1,by omega,by go_num,?_,(HB.out.alloc HB.out.size _).trans (HB1.out.mono (by simp; have:=HB.out.size; omega))⟩
     rw [HK1.out,<- HX.out,<- HQ1.out]
     congr 1; omega
    case measure => simp [intOf]; omega
   ·go_wp2_with (fail)
    go_at_call 63
    with_reducible refine (HIH2.out _ ((Below.refl _ wr).alloc (Nat.le_refl _) _)).mono ?_
    rintro e w1 ⟨rfl,hB1⟩
    have HB1:=hid hB1
    clear hB1
    go_wp2_with (fail)
    go_roundw
    case rel =>
     refine ⟨j + 1,by omega,by go_num,?_,(HB.out.alloc HB.out.size _).trans (HB1.out.mono (by simp; have:=HB.out.size; omega))⟩
     rw [HK1.out,<- HX.out,<- HQ1.out]
     congr 1; omega
    case measure => simp [intOf]; omega
  ·obtain rfl:j = n2:=by omega
   have htk:l.take j = l:=List.take_of_length_le (by rw [HN.out]; exact Nat.le_refl _)
   rw [htk]
   have HB:=hid hB
   clear hB
   go_wp2_with (fail)
   go_ret
   exact ⟨rfl,HB.out⟩
mutual
theorem dp_t:∀ t:Tm,DpOk t.args
 | .mk _ _ args => dp_of args (dp_l args)
theorem dp_l:∀ l:List Tm,∀ t ∈ l,DpOk t.args
 | [],_,h => by cases h
 | x :: r,t,h => by
  rcases List.mem_cons.1 h with he | h
  ·rw [he]; exact dp_t x
  ·exact dp_l r t h
end
theorem dp_ok (l:List Tm):DpOk l:=dp_of l (dp_l l)
set_option maxRecDepth 100000 in
set_option maxHeartbeats 4000000 in
theorem depth_call (w:World) (s:SL) (l:List Tm) (hs:IsTs (SN w) w s l) (hN:nodesTs l <= 900000):Calls Tryz.prog 34 #[.agg #[.int .u8 0,.string ⟨#[]⟩,s.v,.slice none 0 0]] w fun e w' => e = .returned (.int .i64 ((depthTs l:Int) + 1)) /\ Below w.heap.size w w':=by
 have hd:=fun (W:World) (hW:Below w.heap.size w W) => dp_ok l W s (hs.turn (sn_up hW)) (by omega)
 have hx:=depth_leTs l
 obtain ⟨x,hx2⟩:∃ x,x = depthTs l:=⟨_,rfl⟩
 rw [<- hx2] at hd hx ⊢
 obtain ⟨sa,n2,sc⟩:=s
 simp only [SL.v] at hd ⊢
 have hxl:x <= 900000:=by omega
 have hw:wrap64 ((x:Int) + 1) = (x:Int) + 1:=IntWalk.wrap64_in _ (by omega)
 have HD:=hid hd
 clear hd hx hx2 hs hN
 go_enter Tryz.func34,Tryz.ntmps34
 go_wp2_with (fail)
 go_at_call 63
 with_reducible refine (HD.out _ ((Below.refl _ w).alloc (Nat.le_refl _) _)).mono ?_
 rintro e w1 ⟨rfl,hB1⟩
 have hb:=(hB1.block w.heap.size (by simp)).trans (HK.blk_new w (.cells #[.int .u8 0,.string ⟨#[]⟩,.slice sa n2 sc,.slice none 0 0] 28))
 have c3:=HK.blk_cell hb 3
 have HB1:=hid (((Below.refl _ w).alloc (Nat.le_refl _) (.cells #[.int .u8 0,.string ⟨#[]⟩,.slice sa n2 sc,.slice none 0 0] 28)).trans (hB1.mono (by simp)))
 clear hB1 hb
 go_wp2_with (fail)
 go_loopw [3,12] (fun d i wr => d = .int .i64 (x:Int) /\ i = .int .i64 0 /\ wr = w1) (fun _ _ _ => 0)
 case atStart => exact ⟨rfl,rfl,rfl⟩
 case round =>
  obtain ⟨rfl,rfl,rfl⟩:=hrel
  go_wp2_with (fail)
  go_ret
  exact ⟨rfl,HB1.out⟩
end Go.Proofs.YtdobflpbkfkmgaaGreatDoor
namespace Go.Proofs.YtdobflpbkfkmgaaGreatDoor
open Go.RowKit Go.HK Go.FR Go.HR Lib
set_option linter.unusedVariables false
set_option linter.unusedSimpArgs false
set_option linter.unusedSectionVars false
theorem wide_depth9:Fence.wide.depth.isSome = false:=rfl
attribute [local go_sem] Oper.semAt_some wide_fn asked_wide wide_depth9
theorem yield_depth9 {m m':Nat} {P:Program} {l:Nat} {args:Array Value} {W:World} {R:Ending -> World -> Prop} (h:YieldAt Fence.wide m P l args W R):YieldAt Fence.wide m' P l args W R:=by
 obtain ⟨fn,tmps,assign,body,hy,hR⟩:=h
 exact ⟨fn,tmps,assign,body,hy,hR.1,fun c cs _ => hR.2 c cs (fun d h => by cases h)⟩
theorem below_turn9 {B b:Nat} {w A C:World} (h:Below b w A) (ht:HR.Turn B A C) (hb:b <= B) (hw:b <= w.heap.size):Below b w C :=
 ⟨ht.os.trans h.os,ht.tape.trans h.tape,ht.output.trans h.output,Nat.le_trans h.size ht.size,fun k hk => by
  have h1:=h.block k hk
  have h2:=h.size
  have hlt:k < w.heap.size:=by omega
  rw [Array.getElem?_eq_getElem hlt] at h1
  exact (ht.same k _ h1 (.inl (by omega))).trans (Array.getElem?_eq_getElem hlt).symm⟩
def encW (sa:Option Addr) (sn sc:Nat) (_:Unit):Array Value:=#[.agg #[.int .u8 0,.string ⟨#[]⟩,.slice sa sn sc,.slice none 0 0]]
def PostW (J Jx:List Unit -> World -> Prop) (Safe:World -> Nat -> Prop) (l:Nat) (W:World) (e:Ending) (W':World):Prop :=
 (e = .returned (.bool true) /\ J [()] W' /\ HR.Keep Safe l W W') ∨ (e = .returned (.bool false) /\ Jx [()] W')
set_option maxRecDepth 100000 in
set_option maxHeartbeats 4000000 in
theorem visit_one (Safe:World -> Nat -> Prop) (l:Nat) (J Jx:List Unit -> World -> Prop) (hS:IsSafe Safe J) (hJ:∀ s A C,J s A -> Later A C -> J s C) (sa:Option Addr) (sn sc:Nat)
  (hY:∀ m W,J [] W -> YieldAt Fence.wide m Tryz.prog l (encW sa sn sc ()) W (PostW J Jx Safe l W)) (k:Nat) (W:World) (hj:J [] W) (hl:l < W.heap.size) :
  CallsIn Fence.wide k Tryz.prog 120 #[.agg #[.int .u8 0,.string ⟨#[]⟩,.slice sa sn sc,.slice none 0 0],.func (.yield l) #[] #[]] W fun e W' => ∃ b,e = .returned (.bool b) /\ ((b = true /\ J [()] W') ∨ (b = false /\ Jx [()] W')):=by
 have hla:Later W (W.alloc (.cells #[.int .u8 0,.string ⟨#[]⟩,.slice sa sn sc,.slice none 0 0] 28)):=(Below.refl _ W).alloc (Nat.le_refl _) _
 have hja:=hJ _ _ _ hj hla
 have hbs:Safe (W.alloc (.cells #[.int .u8 0,.string ⟨#[]⟩,.slice sa sn sc,.slice none 0 0] 28)) W.heap.size:=hS.new _ _ _ _ hj hla (Nat.le_refl _) (by simp)
 have hbl:W.heap.size ≠ l:=by omega
 have hbx:=HK.blk_new W (.cells #[.int .u8 0,.string ⟨#[]⟩,.slice sa sn sc,.slice none 0 0] 28)
 have hyy:=hY (k - 1) _ hja
 simp only [encW] at hyy
 obtain ⟨fn',tmps',assign',body',hy,hRR⟩:=hyy
 have HBX:=hid hbx
 have HSF:=hid hbs
 have HBL:=hid hbl
 clear hbx hbs hj hja hla hS hJ hY hbl
 refine callsIn_of_wp Tryz.func120 rfl trivial ?_ rfl
 simp only [Tryz.ntmps120,List.size_toArray,List.length_cons,List.length_nil,Nat.reduceAdd,Nat.reduceSub,Array.replicate_succ,Array.replicate_zero,List.push_toArray,List.append_toArray,List.nil_append,List.cons_append]
 gi_wp2_with (fail)
 refine hRR.mono ?_
 clear hy hRR
 rintro e W1 (⟨rfl,hj1,hk1⟩ | ⟨rfl,hx1⟩)
 ·have hbx1:=(hk1.2 _ HSF.out HBL.out).2.trans HBX.out
  have s3:=HK.blk_cell hbx1 3
  have HJ1:=hid hj1
  clear hj1 hk1 hbx1 HBX HSF
  gi_wp2_with (fail)
  gi_loopw [14] (fun i wr => i = .int .i64 0 /\ wr = W1) (fun _ _ => 0)
  case atStart => exact ⟨rfl,rfl⟩
  case round =>
   obtain ⟨rfl,rfl⟩:=hrel
   gi_wp2_with (fail)
   go_ret
   exact ⟨true,rfl,.inl ⟨rfl,HJ1.out⟩⟩
 ·have HX1:=hid hx1
  clear hx1
  gi_wp2_with (fail)
  go_ret
  exact ⟨false,rfl,.inr ⟨rfl,HX1.out⟩⟩
set_option maxRecDepth 100000 in
set_option maxHeartbeats 4000000 in
theorem walk_seq (k:Nat) (w:World) (sa:Option Addr) (sn sc:Nat) (Bp:Nat) (hB:w.heap[Bp]? = some (.cells #[.int .u8 0,.string ⟨#[]⟩,.slice sa sn sc,.slice none 0 0] 28 (0,0))) :
  SeqT Fence.wide k Tryz.prog 119 #[.pointer (some ⟨Bp,0,none⟩)] (encW sa sn sc) (fun _ _ => True) (fun j => j = Bp) (fun xs _ => xs.length = 1) (fun pre _ => pre.length = 1) 1 w:=by
 intro Safe l J Jx W hW hwl hlW hSafe hK hJ hJx hY h0
 have hBW:W.heap[Bp]? = some (.cells #[.int .u8 0,.string ⟨#[]⟩,.slice sa sn sc,.slice none 0 0] 28 (0,0)):=(hW.block _ (HK.blk_lt hB)).trans hB
 have hvis:=visit_one Safe l J Jx hSafe hJ sa sn sc (fun m W1 h1 => yield_depth9 (hY [] () W1 h1 trivial (by simp))) (k - 1) W h0 hlW
 have c0:=HK.blk_cell hBW 0
 have c1:=HK.blk_cell hBW 1
 have c2:=HK.blk_cell hBW 2
 have c3:=HK.blk_cell hBW 3
 have hbl:=HK.blk_lt hBW
 have HV:=hid hvis
 clear hvis hBW hY h0 hK
 refine callsIn_of_wp Tryz.func119 rfl trivial ?_ rfl
 simp only [Tryz.ntmps119,List.size_toArray,List.length_cons,List.length_nil,Nat.reduceAdd,Nat.reduceSub,Array.replicate_succ,Array.replicate_zero,List.push_toArray,List.append_toArray,List.nil_append,List.cons_append]
 gi_wp2_with (gi_at_call 120; (refine HV.out.mono ?_; rintro e W8 ⟨b,rfl,hb⟩))
 go_end0
 rcases hb with ⟨_,h2⟩ | ⟨_,h2⟩
 ·exact ⟨⟨_,rfl⟩,.inl ⟨[()],rfl,h2⟩⟩
 ·exact ⟨⟨_,rfl⟩,.inr ⟨[()],rfl,h2⟩⟩
structure CtI (w:World) (T:Nat) (pre:List Unit) (W:World):Prop where
 rl:Boxed W (w.heap.size + 1) 3 (.int .i64 9223372036854775807)
 rn:Boxed W (w.heap.size + 2) 3 (.int .i64 ((pre.length * (1 + T):Nat):Int))
 hB:Below w.heap.size w W
 hz:w.heap.size + 4 <= W.heap.size
theorem CtI.turn {w A C:World} {T:Nat} {pre:List Unit} (h:CtI w T pre A) (ht:HR.Turn (w.heap.size + 4) A C):CtI w T pre C :=
 ⟨ht.same _ _ h.rl (.inr rfl),ht.same _ _ h.rn (.inr rfl),below_turn9 h.hB ht (by omega) (Nat.le_refl _),Nat.le_trans h.hz ht.size⟩
def CtSafe (w:World) (W:World) (k:Nat):Prop:=k < W.heap.size /\ k ≠ w.heap.size + 2
def CtAx (w:World) (sa:Option Addr) (sn sc:Nat) (x:Unit) (a':Act) (W:World):Prop :=
 ∃ Bx,w.heap.size + 4 <= Bx /\ W.heap[Bx]? = some (.cells #[.int .u8 0,.string ⟨#[]⟩,.slice sa sn sc,.slice none 0 0] 28 (0,0)) /\
  a' = { tmps:=#[.agg #[.int .u8 0,.string ⟨#[]⟩,.slice sa sn sc,.slice none 0 0],.int .i64 9223372036854775807,.pointer (some ⟨w.heap.size,0,none⟩),.pointer (some ⟨w.heap.size + 1,0,none⟩),.int .i64 0,.pointer (some ⟨w.heap.size + 1 + 1,0,none⟩),.pointer (some ⟨Bx,0,none⟩),.agg #[.int .u8 0,.string ⟨#[]⟩,.slice sa sn sc,.slice none 0 0],
   .func (.func 119) #[] #[.pointer (some ⟨w.heap.size + 1 + 1 + 1,0,none⟩)],.agg #[.int .u8 0,.string ⟨#[]⟩,.slice sa sn sc,.slice none 0 0],
   undef,undef,undef,undef,undef,undef,undef,undef,undef,undef],defers:=[] }
theorem CtAx.turn {w A C:World} {B:Nat} {sa:Option Addr} {sn sc:Nat} {x:Unit} {a:Act} (h:CtAx w sa sn sc x a A) (ht:HR.Turn B A C):CtAx w sa sn sc x a C:=by
 obtain ⟨Bx,h3,h4,h5⟩:=h
 exact ⟨Bx,h3,ht.same _ _ h4 (.inr rfl),h5⟩
theorem CtI.on {w W W2:World} {T:Nat} (h:CtI w T [] W) (B l:Nat) (hF:FJ (w.heap.size + 2) W W2) (hn:W2.heap[w.heap.size + 2]? = some (.cells #[.int .i64 ((1 + T:Nat):Int)] 3 (0,0))) :
  KeepsFrom B W W2 /\ HR.Keep (CtSafe w) l W W2 /\ CtI w T [()] W2:=by
 have hrn:=h.rn
 refine ⟨⟨hF.size,fun k o _ hk ho => ?_⟩,⟨hF.size,fun k hk hne => ⟨⟨Nat.lt_of_lt_of_le hk.1 hF.size,hk.2⟩,hF.block k hk.1 hk.2⟩⟩,hF.heap h.rl (by omega),by unfold Boxed; simpa using hn,h.hB.trans (hF.below h.hB.size (fun k hk => by omega)),Nat.le_trans h.hz hF.size⟩
 refine hF.heap hk (fun e => ?_)
 subst e
 unfold Boxed at hrn
 rw [hk] at hrn
 cases hrn; cases ho
set_option maxRecDepth 100000 in
set_option maxHeartbeats 4000000 in
theorem walk_iz (w:World) (sa:Option Addr) (sn sc:Nat) (k:Nat):CallsIn Fence.wide k Tryz.prog 93 #[.agg #[.int .u8 0,.string ⟨#[]⟩,.slice sa sn sc,.slice none 0 0]] w fun e w' => e = .returned (.func (.func 119) #[] #[.pointer (some ⟨w.heap.size,0,none⟩)]) /\ w' = w.alloc (.cells #[.int .u8 0,.string ⟨#[]⟩,.slice sa sn sc,.slice none 0 0] 28):=by
 refine callsIn_of_wp Tryz.func93 rfl trivial ?_ rfl
 simp only [Tryz.ntmps93,List.size_toArray,List.length_cons,List.length_nil,Nat.reduceAdd,Nat.reduceSub,Array.replicate_succ,Array.replicate_zero,List.push_toArray,List.append_toArray,List.nil_append,List.cons_append]
 gi_wp2
 go_ret
 exact ⟨rfl,rfl⟩
set_option maxRecDepth 100000 in
set_option maxHeartbeats 4000000 in
theorem count_aux (k:Nat) (hk:4 <= k) (w:World) (s:SL) (ts:List Tm) (hs:IsTs (SN w) w s ts) (hN:nodesTs ts <= 900000) (sa:Option Addr) (sn sc:Nat) (hsv:s = ⟨sa,sn,sc⟩) :
  CallsIn Fence.wide k Tryz.prog 62 #[.agg #[.int .u8 0,.string ⟨#[]⟩,.slice sa sn sc,.slice none 0 0],.int .i64 9223372036854775807] w fun e w' => e = .returned (.int .i64 ((1 + nodesTs ts:Nat):Int)) /\ Below w.heap.size w w':=by
 subst hsv
 have hst:=fun W k => walk_iz W sa sn sc k
 refine callsIn_of_wp_marks Tryz.func62 rfl trivial ?_ rfl
 simp only [Tryz.ntmps62,List.size_toArray,List.length_cons,List.length_nil,Nat.reduceAdd,Nat.reduceSub,Array.replicate_succ,Array.replicate_zero,List.push_toArray,List.append_toArray,List.nil_append,List.cons_append]
 gi_wp2_with (gi_at_call 93; refine (hst _ _).mono ?_; rintro e w' ⟨rfl,rfl⟩)
 obtain ⟨O,hO⟩:∃ O,O = Obj.cells #[.int .u8 0,.string ⟨#[]⟩,.slice sa sn sc,.slice none 0 0] 28:=⟨_,rfl⟩
 rw [<- hO]
 obtain ⟨w0,hw0⟩:∃ w0,w0 = ((((w.alloc O).alloc (.cells #[.int .i64 9223372036854775807] 3)).alloc (.cells #[.int .i64 0] 3)).alloc O):=⟨_,rfl⟩
 have hb0:Below w.heap.size w w0:=by
  rw [hw0]; exact (((((Below.refl _ w).alloc (Nat.le_refl _) _).alloc (by simp) _).alloc (by simp; omega) _).alloc (by simp; omega) _)
 have hsz0:w0.heap.size = w.heap.size + 4:=by rw [hw0]; simp
 have b2:Boxed w0 (w.heap.size + 1) 3 (.int .i64 9223372036854775807):=by
  rw [hw0]; have:=((Boxed.new (w.alloc O) 3 (.int .i64 9223372036854775807)).alloc (.cells #[.int .i64 0] 3)).alloc O
  simpa using this
 have b3:Boxed w0 (w.heap.size + 2) 3 (.int .i64 0):=by
  rw [hw0]; have:=(Boxed.new ((w.alloc O).alloc (.cells #[.int .i64 9223372036854775807] 3)) 3 (.int .i64 0)).alloc O
  simpa using this
 have b4:w0.heap[w.heap.size + 3]? = some O:=by
  rw [hw0]; have:=HK.blk_new (((w.alloc O).alloc (.cells #[.int .i64 9223372036854775807] 3)).alloc (.cells #[.int .i64 0] 3)) O
  simpa using this
 have hI0:CtI w (nodesTs ts) [] w0:=⟨b2,by simpa using b3,hb0,by omega⟩
 rw [<- hw0]
 rw [hO] at b4
 refine range_told (n:=k) rfl (by omega) (gf:=119) (lb:=#[.pointer (some ⟨w.heap.size + 3,0,none⟩)]) rfl trivial (enters_of Tryz.func119 (by kernel_rfl) rfl)
  (walk_seq (k - 1) w0 sa sn sc (w.heap.size + 3) b4)
  (fun _ => rfl) (fun x A C h ht => trivial) (fun _ _ _ h _ => h) (fun _ _ _ h _ => h)
  (CtI w (nodesTs ts)) (fun c pre W => False)
  (fun _ A C h ht => by rw [hsz0] at ht; exact h.turn ht) (fun _ _ A C h ht => h) hI0
  (CtSafe w) (fun j hj => ⟨by omega,by omega⟩)
  (fun _ _ _ _ h => h.1) (fun _ A C j _ ht h => ⟨Nat.lt_of_lt_of_le h.1 ht.size,h.2⟩) (fun _ A C j hi _ h1 h2 => by have:=hi.hz; exact ⟨h2,by omega⟩)
  (CtAx w sa sn sc) (fun _ _ A C h ht => h.turn ht) ?assign ?body ?done ?stop
 case assign =>
  intro l pre x W R hI hT hR
  simp only [encW]
  gi_wp2
  have hz:=hI.hz
  have hb:=HK.blk_new W (.cells #[.int .u8 0,.string ⟨#[]⟩,.slice sa sn sc,.slice none 0 0] 28)
  refine hR _ _ ((KeepsOthers.alloc _ _).from _) ⟨by simp,fun j hj hne => ⟨⟨by have:=hj.1; simp; omega,hj.2⟩,Below.heap_alloc _ _ _ hj.1⟩⟩ (hI.turn (.of_alloc _ _)) ⟨W.heap.size,hz,hb,rfl⟩
 case body =>
  intro l pre x a' W hI hax hpl
  obtain rfl:pre = []:=by cases pre with
   | nil => rfl
   | cons a r => simp at hpl
  obtain ⟨Bx,hBx,hX,rfl⟩:=hax
  have x2:=HK.blk_cell hX 2
  have hrn:=hI.rn
  simp only [List.length_nil,Nat.zero_mul,show ((0:Nat):Int) = 0 from rfl] at hrn
  have c3:=hrn.cell
  have f3:=hrn.frozen
  have cl:=hI.rl.cell
  have hvt:=vt_ok ts (W.setCell ⟨w.heap.size + 1 + 1,0,none⟩ (.int .i64 1)) ⟨sa,sn,sc⟩ (w.heap.size + 1 + 1) (w.heap.size + 1) 1 (hs.turn fun k hk => ⟨⟨by unfold SN at hk; omega,by unfold SN at hk; have:=hI.hz; simp; omega⟩,by unfold SN at hk; rw [Below.heap_setCell _ _ _ _ (by show k ≠ w.heap.size + 1 + 1; omega)]; exact hI.hB.block k hk⟩) (HK.blk_set hrn 0 (.int .i64 1)) (HK.blk_set_other hI.rl (p:=⟨w.heap.size + 1 + 1,0,none⟩) (by show w.heap.size + 1 ≠ w.heap.size + 1 + 1; omega) _) (by omega) (by omega)
  simp only [SL.v] at hvt
  have HVT:=hid hvt
  have HI:=hid hI
  have HX:=hid hX
  have HRN:=hid hrn
  obtain ⟨T,hT⟩:∃ T,T = nodesTs ts:=⟨_,rfl⟩
  rw [<- hT] at HVT HI hN ⊢
  have hdec:decide ((9223372036854775807:Int) < ((1 + T:Nat):Int)) = false:=decide_eq_false (by omega)
  clear hI hX hpl hw0 hsz0 b2 b3 b4 hI0 hb0 hst hs hvt hrn hT hO
  gi_wp2_with (fail)
  gi_at_call 94
  refine (((callsIn_wide (n:=_)).2 HVT.out).inRound l).mono ?_
  rintro e W2 ⟨rfl,hF2,hn2⟩
  have hF:FJ (w.heap.size + 2) W W2:=((HK.Frm.refl (fun k => k = w.heap.size + 1 + 1) W).setCell (p:=⟨w.heap.size + 1 + 1,0,none⟩) (.inl rfl) _).trans hF2
  have hl2:=hF.heap HI.out.rl (by omega)
  have c5:=HK.blk_cell hn2 0
  have c6:=HK.blk_cell hl2 0
  have HF:=hid hF
  have HN2:=hid hn2
  clear hF hF2 hn2 hl2
  gi_wp2_with (fail)
  exact HI.out.on w0.heap.size l HF.out HN2.out
 case done =>
  rintro D ys W hD hS hI hK
  have hrn:=hI.rn
  rw [hS,Nat.one_mul] at hrn
  have c2:=hrn.cell
  have HB:=hid hI.hB
  have HKD:=hid hK
  have HD:=hid hD
  have HSZ:=hid hsz0
  clear hI hS hK hD hw0 hsz0 b2 b3 b4 hI0 hb0 hst hs hrn hO
  gi_wp2
  refine ⟨by simp,.inl ⟨_,_,rfl,run_takeDeferred HKD.out,?_⟩⟩
  refine ⟨.int .i64 ((1 + nodesTs ts:Nat):Int),by simp [results,Tryz.results62,go_sem],rfl,?_⟩
  exact HB.out.grown (grownBy_putObj' W D _) (by have:=HB.out.size; omega) (fun k e => by cases e; have:=HD.out; have:=HSZ.out; omega)
 case stop => rintro D c pre W hD hpre h; exact h.elim
set_option maxRecDepth 100000 in
set_option maxHeartbeats 1000000 in
theorem nodes_call (w:World) (s:SL) (ts:List Tm) (hs:IsTs (SN w) w s ts) (hN:nodesTs ts <= 900000):Calls Tryz.prog 33 #[.agg #[.int .u8 0,.string ⟨#[]⟩,s.v,.slice none 0 0]] w fun e w' => e = .returned (.int .i64 ((1 + nodesTs ts:Nat):Int)) /\ Below w.heap.size w w':=by
 obtain ⟨sa,sn,sc⟩:=s
 have hc:=fun (W:World) (hW:Below w.heap.size w W) => callsIn_wide.1 (count_aux 4 (by omega) W ⟨sa,sn,sc⟩ ts (hs.turn (sn_up hW)) hN sa sn sc rfl)
 simp only [SL.v]
 obtain ⟨T,hT⟩:∃ T,T = 1 + nodesTs ts:=⟨_,rfl⟩
 rw [<- hT] at hc ⊢
 have HC:=hid hc
 clear hc hs hN hT
 go_enter Tryz.func33,Tryz.ntmps33
 go_wp2_with (fail)
 go_at_call 62
 with_reducible refine (HC.out _ ((Below.refl _ w).alloc (Nat.le_refl _) _)).mono ?_
 rintro e w1 ⟨rfl,hB⟩
 have HB:=hid (((Below.refl _ w).alloc (Nat.le_refl _) (.cells #[.int .u8 0,.string ⟨#[]⟩,.slice sa sn sc,.slice none 0 0] 28)).trans (hB.mono (by simp)))
 clear hB
 go_wp2_with (fail)
 go_ret
 exact ⟨rfl,HB.out⟩
end Go.Proofs.YtdobflpbkfkmgaaGreatDoor
