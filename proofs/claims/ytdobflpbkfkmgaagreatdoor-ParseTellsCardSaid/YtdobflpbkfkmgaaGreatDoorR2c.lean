import Derived.Test.YtdobflpbkfkmgaaGreatDoorR2b
namespace Go.Proofs.YtdobflpbkfkmgaaGreatDoor
open Go.RowKit Go.HK Go.FR Lib
set_option linter.unusedVariables false
set_option linter.unusedSimpArgs false
set_option linter.unusedSectionVars false
mutual
def rT (b:Bool):Tm -> Bool
 | .mk v nm args => if v = true then args.isEmpty && (checkB varB digitB nm || (b && tmB nm)) else decide (args.length <= 4) && checkB funB alnumB nm && rTs b args
def rTs (b:Bool):List Tm -> Bool
 | [] => true
 | t :: r => rT b t && rTs b r
end
def rowB (b:Bool) (op:Nat) (nm:ByteArray) (args:List Tm) (subs:List Fm):Bool:=(rR op || (b && rS op)) && namedB (rN op) nm && (!decide (op = 16) || instB args) && decide (args.length <= rA op) && decide (subs.length = rB op)
mutual
def rF (b:Bool):Fm -> Bool
 | .mk op nm args subs => rowB b op nm args subs && rTs b args && rFs b subs
def rFs (b:Bool):List Fm -> Bool
 | [] => true
 | f :: r => rF b f && rFs b r
end
theorem rTs_app (b:Bool):∀ x y:List Tm,rTs b (x ++ y) = (rTs b x && rTs b y)
 | [],y => by simp [rTs]
 | t :: x,y => by simp only [List.cons_append,rTs,rTs_app b x y,Bool.and_assoc]
theorem rFs_app (b:Bool):∀ x y:List Fm,rFs b (x ++ y) = (rFs b x && rFs b y)
 | [],y => by simp [rFs]
 | t :: x,y => by simp only [List.cons_append,rFs,rFs_app b x y,Bool.and_assoc]
theorem rTs_take {b:Bool} {l:List Tm} {j:Nat} {t:Tm} (h:l[j]? = some t):rTs b (l.take (j + 1)) = (rTs b (l.take j) && rT b t):=by
 rw [List.take_add_one,h,Option.toList_some,rTs_app]; simp [rTs]
theorem rFs_take {b:Bool} {l:List Fm} {j:Nat} {t:Fm} (h:l[j]? = some t):rFs b (l.take (j + 1)) = (rFs b (l.take j) && rF b t):=by
 rw [List.take_add_one,h,Option.toList_some,rFs_app]; simp [rFs]
theorem rTs_mem {b:Bool} {l:List Tm} {t:Tm} (h:t ∈ l) (h2:rT b t = false):rTs b l = false:=by
 induction l with
 | nil => cases h
 | cons x r ih =>
  unfold rTs
  rcases List.mem_cons.1 h with rfl | h
  ·rw [h2]; rfl
  ·rw [ih h]; simp
theorem rFs_mem {b:Bool} {l:List Fm} {t:Fm} (h:t ∈ l) (h2:rF b t = false):rFs b l = false:=by
 induction l with
 | nil => cases h
 | cons x r ih =>
  unfold rFs
  rcases List.mem_cons.1 h with rfl | h
  ·rw [h2]; rfl
  ·rw [ih h]; simp
mutual
theorem good_rT (N:Nat) (b:Bool):∀ (t:Tm) (d:Nat),goodT ⟨N,b⟩ d t = (rT b t && decide (d + depthT t <= N + 1))
 | .mk v nm args,d => by
  unfold goodT rT depthT
  cases v
  ·simp only [Bool.false_eq_true,if_false]
   by_cases hd:d <= N
   ·rw [decide_eq_true hd,good_rTs N b args (d + 1) (by omega)]
    have e:decide (d + 1 + depthTs args <= N + 1) = decide (d + (1 + depthTs args) <= N + 1):=by apply decide_eq_decide.2; omega
    rw [e]
    simp only [Bool.true_and,Bool.and_assoc]
   ·rw [decide_eq_false hd,decide_eq_false (by omega:¬ d + (1 + depthTs args) <= N + 1)]; simp
  ·simp only [if_true]
   cases args with
   | nil =>
    have e:decide (d + (1 + depthTs []) <= N + 1) = decide (d <= N):=by apply decide_eq_decide.2; unfold depthTs; omega
    rw [e,Bool.and_comm]
   | cons x r => simp
theorem good_rTs (N:Nat) (b:Bool):∀ (l:List Tm) (d:Nat),d <= N + 1 -> goodTs ⟨N,b⟩ d l = (rTs b l && decide (d + depthTs l <= N + 1))
 | [],d,hd => by unfold goodTs rTs depthTs; rw [decide_eq_true (by omega)]; rfl
 | t :: r,d,hd => by
  unfold goodTs rTs depthTs
  rw [good_rT N b t d,good_rTs N b r d hd]
  have e:decide (d + max (depthT t) (depthTs r) <= N + 1) = (decide (d + depthT t <= N + 1) && decide (d + depthTs r <= N + 1)):=by rw [Bool.eq_iff_iff]; simp; omega
  rw [e]
  cases rT b t <;> cases rTs b r <;> cases decide (d + depthT t <= N + 1) <;> cases decide (d + depthTs r <= N + 1) <;> rfl
end
mutual
theorem good_rF (N:Nat) (b:Bool):∀ (f:Fm) (d:Nat),goodF ⟨N,b⟩ d f = (rF b f && decide (d + depthF f <= N + 1))
 | .mk op nm args subs,d => by
  unfold goodF rF depthF
  by_cases hd:d <= N
  ·rw [decide_eq_true hd,good_rTs N b args (d + 1) (by omega),good_rFs N b subs (d + 1) (by omega)]
   have e:decide (d + (1 + max (depthTs args) (depthL subs)) <= N + 1) = (decide (d + 1 + depthTs args <= N + 1) && decide (d + 1 + depthL subs <= N + 1)):=by rw [Bool.eq_iff_iff]; simp; omega
   rw [e]
   unfold rowB
   simp only [Bool.true_and]
   cases (rR op || (b && rS op)) && namedB (rN op) nm && (!decide (op = 16) || instB args) && decide (args.length <= rA op) && decide (subs.length = rB op) <;> cases rTs b args <;> cases rFs b subs <;> cases decide (d + 1 + depthTs args <= N + 1) <;> cases decide (d + 1 + depthL subs <= N + 1) <;> rfl
  ·rw [decide_eq_false hd,decide_eq_false (by omega:¬ d + (1 + max (depthTs args) (depthL subs)) <= N + 1)]; simp
theorem good_rFs (N:Nat) (b:Bool):∀ (l:List Fm) (d:Nat),d <= N + 1 -> goodFs ⟨N,b⟩ d l = (rFs b l && decide (d + depthL l <= N + 1))
 | [],d,hd => by unfold goodFs rFs depthL; rw [decide_eq_true (by omega)]; rfl
 | t :: r,d,hd => by
  unfold goodFs rFs depthL
  rw [good_rF N b t d,good_rFs N b r d hd]
  have e:decide (d + max (depthF t) (depthL r) <= N + 1) = (decide (d + depthF t <= N + 1) && decide (d + depthL r <= N + 1)):=by rw [Bool.eq_iff_iff]; simp; omega
  rw [e]
  cases rF b t <;> cases rFs b r <;> cases decide (d + depthF t <= N + 1) <;> cases decide (d + depthL r <= N + 1) <;> rfl
end
theorem sch_rF (b:Bool) (f:Fm):(goodF ⟨40,b⟩ 1 f && decide ((nodesF f:Int) <= 400)) = (rF b f && decide ((nodesF f:Int) <= 400) && decide ((depthF f:Int) <= 40)):=by
 rw [good_rF]
 have e:decide (1 + depthF f <= 40 + 1) = decide ((depthF f:Int) <= 40):=by apply decide_eq_decide.2; omega
 rw [e]
 cases rF b f <;> cases decide ((nodesF f:Int) <= 400) <;> cases decide ((depthF f:Int) <= 40) <;> rfl
def RtOk (t:Tm):Prop:=∀ (w:World) (s:SL) (b:Bool),IsTs (SN w) w s t.args -> t.name.size <= maxLen -> nodesT t <= 1000000 -> Calls Tryz.prog 70 #[.agg #[.bool t.var,.string t.name,s.v],.bool b] w (RetW w (rT b t))
set_option maxRecDepth 100000 in
set_option maxHeartbeats 4000000 in
theorem rterm_of (v:Bool) (nm:ByteArray) (args:List Tm) (IH:∀ t ∈ args,RtOk t):RtOk (.mk v nm args):=by
 intro w s b hs hz hN
 simp only [FR.Tm.var,FR.Tm.name,FR.Tm.args] at hs hz ⊢
 have hN2:1 + nodesTs args <= 1000000:=by unfold nodesT at hN; exact hN
 have hlen:=hs.len
 obtain ⟨sa,sn,sc⟩:=s
 simp only at hlen
 simp only [SL.v]
 have hsn:sn <= 1000000:=by have:=nodesTs_len args; omega
 obtain ⟨R,hR⟩:∃ R,R = rT b (.mk v nm args):=⟨_,rfl⟩
 rw [<- hR]
 have hbx:=bl_al9 (W:=w) (.cells #[.bool v,.string nm,.slice sa sn sc] 36)
 have hv:=fun W => variable_call W nm hz
 have ho:=fun W => ofTerms_call W nm hz
 have hf:=fun W => function_callr W nm hz
 have hk:=HK.blk_new w (.cells #[.bool v,.string nm,.slice sa sn sc] 36)
 obtain ⟨q1,e1⟩:∃ q,q = checkB varB digitB nm:=⟨_,rfl⟩
 obtain ⟨q2,e2⟩:∃ q,q = tmB nm:=⟨_,rfl⟩
 obtain ⟨q3,e3⟩:∃ q,q = checkB funB alnumB nm:=⟨_,rfl⟩
 rw [<- e1] at hv
 rw [<- e2] at ho
 rw [<- e3] at hf
 have HV:=hid hv
 have HO:=hid ho
 have HF:=hid hf
 unfold rT at hR
 rw [<- e1,<- e2,<- e3] at hR
 have HR:=hid hR
 have HLEN:=hid hlen
 have HS:=hid hs
 have HIH:=hid IH
 have HN:=hid hN2
 have HK0:=hid hk
 have HB0:=hid hbx
 clear hR hs IH hN hN2 hv ho hf e1 e2 e3 hz hk hbx
 rcases v with _ | _
 ·clear hlen
  have hr:R = (decide (args.length <= 4) && q3 && rTs b args):=by rw [HR.out]; simp
  have HR2:=hid hr
  clear hr
  go_enter Tryz.func70,Tryz.ntmps70
  go_wp2_with (fail)
  go_loopw [5] (fun i wr => ∃ j:Nat,j <= sn /\ i = .int .i64 j /\ Below (w.alloc (.cells #[.bool false,.string nm,.slice sa sn sc] 36)).heap.size (w.alloc (.cells #[.bool false,.string nm,.slice sa sn sc] 36)) wr /\ rTs b (args.take j) = true) (fun i _ => sn - (intOf i).toNat)
  case atStart => exact ⟨0,by omega,rfl,Below.refl _ _,rfl⟩
  case round =>
   obtain ⟨j,hj,rfl,hB,hall⟩:=hrel
   have HALL:=hid hall
   have HB:=hid hB
   have HBW:=hid (HB0.out.trans (hB.mono HB0.out.size))
   have hk:=(hB.block _ (HK.blk_lt HK0.out)).trans HK0.out
   have z0:=HK.blk_cell hk 0
   have z1:=HK.blk_cell hk 1
   have z2:=HK.blk_cell hk 2
   clear hall hk
   by_cases hjn:(j:Int) < (sn:Int)
   ·have b0:(0:Int) <= (j:Int):=by omega
    obtain ⟨q,hq⟩:∃ q,args[j]? = some q:=⟨_,List.getElem?_eq_getElem (by rw [<- HLEN.out]; omega)⟩
    have hp:=HS.out.turn (sn_up HBW.out)
    obtain ⟨g1,o1,hga⟩:=ts_any HS.out hq
    subst hga
    obtain ⟨u,c0,c1,c2,hu,hz⟩:=ts_at hp hq
    have hqn:nodesT q <= nodesTs args:=by
     have h1:=nodesTs_take hq
     have h2:=nodesTs_take_le args (j + 1)
     omega
    have hcq:=HIH.out q (List.mem_of_getElem? hq) wr u b hu hz (by have:=HN.out; omega)
    obtain ⟨k,hkq⟩:∃ k,k = rT b q:=⟨_,rfl⟩
    rw [<- hkq] at hcq
    have HQ:=hid hq
    have HKQ:=hid hkq
    have HC:=hid hcq
    clear hcq hq hp hu hz hqn hkq hB
    obtain ⟨qv,qn,qa⟩:=q
    obtain ⟨ua,un,uc⟩:=u
    simp only [FR.Tm.var,FR.Tm.name,SL.v] at c0 c1 c2 HC
    unfold RetW at HC
    go_wp2_with (fail)
    go_at_call 70
    with_reducible refine HC.out.mono ?_
    rintro _ w2 ⟨rfl,hB2⟩
    have HB2:=hid (HB.out.trans (hB2.mono HB.out.size))
    clear hB2 c0 c1 c2
    rcases k with _ | _
    ·have hr:R = false:=by rw [HR2.out,rTs_mem (List.mem_of_getElem? HQ.out) HKQ.out.symm]; simp
     have HR3:=hid hr
     clear hr
     go_wp2_with (fail)
     go_ret
     exact ⟨by rw [HR3.out]; rfl,HB0.out.trans (HB2.out.mono HB0.out.size)⟩
    ·go_wp2_with (fail)
     go_roundw
     case rel => exact ⟨j + 1,by omega,by go_num,HB2.out,by rw [rTs_take HQ.out,HALL.out,<- HKQ.out]; rfl⟩
     case measure => simp [intOf]; omega
   ·have hall:rTs b args = true:=by have h:=HALL.out; rw [show j = args.length by rw [<- HLEN.out]; omega,List.take_length] at h; exact h
    have hr:R = (q3 && decide ((sn:Int) <= 4)):=by
     rw [HR2.out,hall,<- HLEN.out]
     have e:decide (sn <= 4) = decide ((sn:Int) <= 4):=by apply decide_eq_decide.2; omega
     rw [e]
     cases q3 <;> cases decide ((sn:Int) <= 4) <;> rfl
    have HR3:=hid hr
    clear hr hall hB
    rcases q3 with _ | _
    ·go_wp2_with (go_at_call 67; ((with_reducible refine (HF.out _).mono ?_); rintro _ w2 ⟨rfl,rfl⟩))
     go_ret
     exact ⟨by rw [HR3.out]; rfl,HBW.out⟩
    ·go_wp2_with (go_at_call 67; ((with_reducible refine (HF.out _).mono ?_); rintro _ w2 ⟨rfl,rfl⟩))
     go_ret
     exact ⟨by rw [HR3.out]; rfl,HBW.out⟩
 ·have hr:R = ((sn:Int) == 0 && (q1 || (b && q2))):=by
   rw [HR.out]
   have e:args.isEmpty = ((sn:Int) == 0):=by
    rw [hlen]
    cases args with
    | nil => rfl
    | cons x r => simp; omega
   rw [e]
   simp
  have HR2:=hid hr
  clear hr hlen
  have hk:=HK0.out
  have z0:=HK.blk_cell hk 0
  have z1:=HK.blk_cell hk 1
  have z2:=HK.blk_cell hk 2
  clear hk
  rcases h0:((sn:Int) == 0) with _ | _
  ·have HR3:Hid (R = false):=hid (by rw [HR2.out,h0]; rfl)
   go_enter Tryz.func70,Tryz.ntmps70
   go_wp2_with (fail)
   go_ret
   exact ⟨by rw [HR3.out]; rfl,HB0.out⟩
  ·have HR3:Hid (R = (q1 || (b && q2))):=hid (by rw [HR2.out,h0]; rfl)
   rcases q1 with _ | _ <;> rcases b with _ | _
   all_goals (
    go_enter Tryz.func70,Tryz.ntmps70
    go_wp2_with (first | (go_at_call 66; ((with_reducible refine (HV.out _).mono ?_); rintro _ w2 ⟨rfl,rfl⟩)) | (go_at_call 102; ((with_reducible refine (HO.out _).mono ?_); rintro _ w2 ⟨rfl,rfl⟩)))
    go_ret
    exact ⟨by rw [HR3.out]; rfl,HB0.out⟩)
mutual
theorem rterm_t:∀ t:Tm,RtOk t
 | .mk v nm args => rterm_of v nm args (rterm_l args)
theorem rterm_l:∀ l:List Tm,∀ t ∈ l,RtOk t
 | [],t,h => by cases h
 | u :: r,t,h => by
  rcases List.mem_cons.1 h with h | h
  ·rw [h]; exact rterm_t u
  ·exact rterm_l r t h
end
set_option maxRecDepth 100000 in
set_option maxHeartbeats 8000000 in
theorem row_call (w:World) (op:Nat) (nm:ByteArray) (args:List Tm) (subs:List Fm) (b:Bool) (aa sa:Option Addr) (an ac sn sc:Nat) (ha:IsTs (SN w) w ⟨aa,an,ac⟩ args) (hsl:sn = subs.length) (hz:nm.size <= maxLen):Calls Tryz.prog 106 #[.agg #[.int .u8 (op:Int),.string nm,.slice aa an ac,.slice sa sn sc],.bool b] w (RetW w (rowB b op nm args subs)):=by
 have hal:=ha.len
 simp only at hal
 have hp:=fun W => predicate_call W nm hz
 have hv:=fun W => variable_call W nm hz
 have ho:=fun W => ofForms_call W nm hz
 have hk:=HK.blk_new w (.cells #[.int .u8 (op:Int),.string nm,.slice aa an ac,.slice sa sn sc] 28)
 obtain ⟨qp,e1⟩:∃ q,q = checkB capB alnumB nm:=⟨_,rfl⟩
 obtain ⟨qv,e2⟩:∃ q,q = checkB varB digitB nm:=⟨_,rfl⟩
 obtain ⟨qo,e3⟩:∃ q,q = fmB nm:=⟨_,rfl⟩
 obtain ⟨qe,e4⟩:∃ q,q = nm.toList.isEmpty:=⟨_,rfl⟩
 rw [<- e1] at hp
 rw [<- e2] at hv
 rw [<- e3] at ho
 have HE:Hid (checkB capB alnumB nm = qp /\ checkB varB digitB nm = qv /\ fmB nm = qo /\ nm.toList.isEmpty = qe):=hid ⟨e1.symm,e2.symm,e3.symm,e4.symm⟩
 have hqe:=e4.symm
 obtain ⟨R,hR⟩:∃ R,R = rowB b op nm args subs:=⟨_,rfl⟩
 rw [<- hR]
 have HR:=hid hR
 have HP:=hid hp
 have HV:=hid hv
 have HO:=hid ho
 have HAN:=hid hal
 have HSN:=hid hsl
 have HA:=hid ha
 have HB0:=hid (bl_al9 (W:=w) (.cells #[.int .u8 (op:Int),.string nm,.slice aa an ac,.slice sa sn sc] 28))
 have HK0:=hid hk
 have z0:=HK.blk_cell hk 0
 have z1:=HK.blk_cell hk 1
 have z2:=HK.blk_cell hk 2
 have z3:=HK.blk_cell hk 3
 clear hp hv ho hal hsl ha hk hR e1 e2 e3 e4 hz
 by_cases hop:1 <= op /\ op <= 16
 case neg =>
  have hr:R = false:=by
   rw [HR.out]
   unfold rowB rR rS
   rcases Nat.lt_or_ge op 1 with h | h
   ·rw [decide_eq_false (by omega:¬ 1 <= op)]; simp
   ·rw [decide_eq_false (by omega:¬ op <= 14),decide_eq_false (by omega:¬ op <= 16)]; simp
  have HR2:=hid hr
  clear hr
  have n1:((op:Int) == 1) = false:=by simp; omega
  have n2:((op:Int) == 2) = false:=by simp; omega
  have n3:((op:Int) == 3) = false:=by simp; omega
  have n4:((op:Int) == 4) = false:=by simp; omega
  have n5:((op:Int) == 5) = false:=by simp; omega
  have n6:((op:Int) == 6) = false:=by simp; omega
  have n7:((op:Int) == 7) = false:=by simp; omega
  have n8:((op:Int) == 8) = false:=by simp; omega
  have n9:((op:Int) == 9) = false:=by simp; omega
  have n10:((op:Int) == 10) = false:=by simp; omega
  have n11:((op:Int) == 11) = false:=by simp; omega
  have n12:((op:Int) == 12) = false:=by simp; omega
  have n13:((op:Int) == 13) = false:=by simp; omega
  have n14:((op:Int) == 14) = false:=by simp; omega
  have n15:((op:Int) == 15) = false:=by simp; omega
  have n16:((op:Int) == 16) = false:=by simp; omega
  clear hop
  go_enter Tryz.func106,Tryz.ntmps106
  go_wp2_with (fail)
  go_ret
  exact ⟨by rw [HR2.out]; rfl,HB0.out⟩
 rcases (by omega:op = 1 ∨ op = 2 ∨ op = 3 ∨ op = 10 ∨ op = 11 ∨ op = 12 ∨ op = 13 ∨ op = 4 ∨ op = 5 ∨ op = 6 ∨ op = 7 ∨ op = 14 ∨ op = 8 ∨ op = 9 ∨ op = 15 ∨ op = 16) with rfl | rfl | rfl | rfl | rfl | rfl | rfl | rfl | rfl | rfl | rfl | rfl | rfl | rfl | rfl | rfl
 ·have hr:R = (qp && decide ((an:Int) <= 4) && ((sn:Int) == 0)):=by
   rw [HR.out]
   unfold rowB
   have ea:decide (args.length <= rA 1) = decide ((an:Int) <= 4):=by rw [<- HAN.out]; rw [Bool.eq_iff_iff]; simp [rA]; try omega
   have es:decide (subs.length = rB 1) = ((sn:Int) == 0):=by rw [<- HSN.out]; rw [Bool.eq_iff_iff]; simp [rB]; try omega
   rw [ea,es]
   have h1:=HE.out
   simp only [rR,rS,rN,namedB]
   cases b <;> simp [h1]
  have HR2:=hid hr
  clear hr
  simp only [show ((1:Nat):Int) = 1 from rfl] at z0 ⊢
  rcases qp with _ | _
  ·skip
   have HR3:Hid (R = false):=hid (by rw [HR2.out]; simp)
   go_enter Tryz.func106,Tryz.ntmps106
   go_wp2_with (go_at_call 101; ((with_reducible refine (HP.out _).mono ?_); rintro _ w2 ⟨rfl,rfl⟩))
   go_ret
   exact ⟨by rw [HR3.out]; rfl,HB0.out⟩
  ·skip
   by_cases ha:(an:Int) <= 4
   case neg =>
    have HR3:Hid (R = false):=hid (by rw [HR2.out]; simp [ha])
    go_enter Tryz.func106,Tryz.ntmps106
    go_wp2_with (go_at_call 101; ((with_reducible refine (HP.out _).mono ?_); rintro _ w2 ⟨rfl,rfl⟩))
    go_ret
    exact ⟨by rw [HR3.out]; rfl,HB0.out⟩
   by_cases hs:sn = 0
   case neg =>
    have hns:((sn:Int) == 0) = false:=by simp; omega
    have HR3:Hid (R = false):=hid (by rw [HR2.out]; simp [hns])
    go_enter Tryz.func106,Tryz.ntmps106
    go_wp2_with (go_at_call 101; ((with_reducible refine (HP.out _).mono ?_); rintro _ w2 ⟨rfl,rfl⟩))
    go_ret
    exact ⟨by rw [HR3.out]; rfl,HB0.out⟩
   subst hs
   have HR3:Hid (R = true):=hid (by rw [HR2.out]; simp [ha])
   go_enter Tryz.func106,Tryz.ntmps106
   go_wp2_with (go_at_call 101; ((with_reducible refine (HP.out _).mono ?_); rintro _ w2 ⟨rfl,rfl⟩))
   go_ret
   exact ⟨by rw [HR3.out]; rfl,HB0.out⟩
 ·have hr:R = (qe && ((an:Int) == 0) && ((sn:Int) == 0)):=by
   rw [HR.out]
   unfold rowB
   have ea:decide (args.length <= rA 2) = ((an:Int) == 0):=by rw [<- HAN.out]; rw [Bool.eq_iff_iff]; simp [rA]; try omega
   have es:decide (subs.length = rB 2) = ((sn:Int) == 0):=by rw [<- HSN.out]; rw [Bool.eq_iff_iff]; simp [rB]; try omega
   rw [ea,es]
   have h1:=HE.out
   simp only [rR,rS,rN,namedB]
   cases b <;> simp [h1]
  have HR2:=hid hr
  clear hr
  simp only [show ((2:Nat):Int) = 2 from rfl] at z0 ⊢
  rcases qe with _ | _
  ·skip
   have HR3:Hid (R = false):=hid (by rw [HR2.out]; simp)
   go_enter Tryz.func106,Tryz.ntmps106
   go_wp2_with (fail)
   go_ret
   exact ⟨by rw [HR3.out]; rfl,HB0.out⟩
  ·skip
   by_cases ha:an = 0
   case neg =>
    have hna:((an:Int) == 0) = false:=by simpa using ha
    have HR3:Hid (R = false):=hid (by rw [HR2.out]; simp [hna])
    go_enter Tryz.func106,Tryz.ntmps106
    go_wp2_with (fail)
    go_ret
    exact ⟨by rw [HR3.out]; rfl,HB0.out⟩
   subst ha
   by_cases hs:sn = 0
   case neg =>
    have hns:((sn:Int) == 0) = false:=by simp; omega
    have HR3:Hid (R = false):=hid (by rw [HR2.out]; simp [hns])
    go_enter Tryz.func106,Tryz.ntmps106
    go_wp2_with (fail)
    go_ret
    exact ⟨by rw [HR3.out]; rfl,HB0.out⟩
   subst hs
   have HR3:Hid (R = true):=hid (by rw [HR2.out]; simp)
   go_enter Tryz.func106,Tryz.ntmps106
   go_wp2_with (fail)
   go_ret
   exact ⟨by rw [HR3.out]; rfl,HB0.out⟩
 ·have hr:R = (qe && ((an:Int) == 0) && ((sn:Int) == 1)):=by
   rw [HR.out]
   unfold rowB
   have ea:decide (args.length <= rA 3) = ((an:Int) == 0):=by rw [<- HAN.out]; rw [Bool.eq_iff_iff]; simp [rA]; try omega
   have es:decide (subs.length = rB 3) = ((sn:Int) == 1):=by rw [<- HSN.out]; rw [Bool.eq_iff_iff]; simp [rB]; try omega
   rw [ea,es]
   have h1:=HE.out
   simp only [rR,rS,rN,namedB]
   cases b <;> simp [h1]
  have HR2:=hid hr
  clear hr
  simp only [show ((3:Nat):Int) = 3 from rfl] at z0 ⊢
  rcases qe with _ | _
  ·skip
   have HR3:Hid (R = false):=hid (by rw [HR2.out]; simp)
   go_enter Tryz.func106,Tryz.ntmps106
   go_wp2_with (fail)
   go_ret
   exact ⟨by rw [HR3.out]; rfl,HB0.out⟩
  ·skip
   by_cases ha:an = 0
   case neg =>
    have hna:((an:Int) == 0) = false:=by simpa using ha
    have HR3:Hid (R = false):=hid (by rw [HR2.out]; simp [hna])
    go_enter Tryz.func106,Tryz.ntmps106
    go_wp2_with (fail)
    go_ret
    exact ⟨by rw [HR3.out]; rfl,HB0.out⟩
   subst ha
   by_cases hs:sn = 1
   case neg =>
    have hns:((sn:Int) == 1) = false:=by simp; omega
    have HR3:Hid (R = false):=hid (by rw [HR2.out]; simp [hns])
    go_enter Tryz.func106,Tryz.ntmps106
    go_wp2_with (fail)
    go_ret
    exact ⟨by rw [HR3.out]; rfl,HB0.out⟩
   subst hs
   have HR3:Hid (R = true):=hid (by rw [HR2.out]; simp)
   go_enter Tryz.func106,Tryz.ntmps106
   go_wp2_with (fail)
   go_ret
   exact ⟨by rw [HR3.out]; rfl,HB0.out⟩
 ·have hr:R = (qe && ((an:Int) == 0) && ((sn:Int) == 1)):=by
   rw [HR.out]
   unfold rowB
   have ea:decide (args.length <= rA 10) = ((an:Int) == 0):=by rw [<- HAN.out]; rw [Bool.eq_iff_iff]; simp [rA]; try omega
   have es:decide (subs.length = rB 10) = ((sn:Int) == 1):=by rw [<- HSN.out]; rw [Bool.eq_iff_iff]; simp [rB]; try omega
   rw [ea,es]
   have h1:=HE.out
   simp only [rR,rS,rN,namedB]
   cases b <;> simp [h1]
  have HR2:=hid hr
  clear hr
  simp only [show ((10:Nat):Int) = 10 from rfl] at z0 ⊢
  rcases qe with _ | _
  ·skip
   have HR3:Hid (R = false):=hid (by rw [HR2.out]; simp)
   go_enter Tryz.func106,Tryz.ntmps106
   go_wp2_with (fail)
   go_ret
   exact ⟨by rw [HR3.out]; rfl,HB0.out⟩
  ·skip
   by_cases ha:an = 0
   case neg =>
    have hna:((an:Int) == 0) = false:=by simpa using ha
    have HR3:Hid (R = false):=hid (by rw [HR2.out]; simp [hna])
    go_enter Tryz.func106,Tryz.ntmps106
    go_wp2_with (fail)
    go_ret
    exact ⟨by rw [HR3.out]; rfl,HB0.out⟩
   subst ha
   by_cases hs:sn = 1
   case neg =>
    have hns:((sn:Int) == 1) = false:=by simp; omega
    have HR3:Hid (R = false):=hid (by rw [HR2.out]; simp [hns])
    go_enter Tryz.func106,Tryz.ntmps106
    go_wp2_with (fail)
    go_ret
    exact ⟨by rw [HR3.out]; rfl,HB0.out⟩
   subst hs
   have HR3:Hid (R = true):=hid (by rw [HR2.out]; simp)
   go_enter Tryz.func106,Tryz.ntmps106
   go_wp2_with (fail)
   go_ret
   exact ⟨by rw [HR3.out]; rfl,HB0.out⟩
 ·have hr:R = (qe && ((an:Int) == 0) && ((sn:Int) == 1)):=by
   rw [HR.out]
   unfold rowB
   have ea:decide (args.length <= rA 11) = ((an:Int) == 0):=by rw [<- HAN.out]; rw [Bool.eq_iff_iff]; simp [rA]; try omega
   have es:decide (subs.length = rB 11) = ((sn:Int) == 1):=by rw [<- HSN.out]; rw [Bool.eq_iff_iff]; simp [rB]; try omega
   rw [ea,es]
   have h1:=HE.out
   simp only [rR,rS,rN,namedB]
   cases b <;> simp [h1]
  have HR2:=hid hr
  clear hr
  simp only [show ((11:Nat):Int) = 11 from rfl] at z0 ⊢
  rcases qe with _ | _
  ·skip
   have HR3:Hid (R = false):=hid (by rw [HR2.out]; simp)
   go_enter Tryz.func106,Tryz.ntmps106
   go_wp2_with (fail)
   go_ret
   exact ⟨by rw [HR3.out]; rfl,HB0.out⟩
  ·skip
   by_cases ha:an = 0
   case neg =>
    have hna:((an:Int) == 0) = false:=by simpa using ha
    have HR3:Hid (R = false):=hid (by rw [HR2.out]; simp [hna])
    go_enter Tryz.func106,Tryz.ntmps106
    go_wp2_with (fail)
    go_ret
    exact ⟨by rw [HR3.out]; rfl,HB0.out⟩
   subst ha
   by_cases hs:sn = 1
   case neg =>
    have hns:((sn:Int) == 1) = false:=by simp; omega
    have HR3:Hid (R = false):=hid (by rw [HR2.out]; simp [hns])
    go_enter Tryz.func106,Tryz.ntmps106
    go_wp2_with (fail)
    go_ret
    exact ⟨by rw [HR3.out]; rfl,HB0.out⟩
   subst hs
   have HR3:Hid (R = true):=hid (by rw [HR2.out]; simp)
   go_enter Tryz.func106,Tryz.ntmps106
   go_wp2_with (fail)
   go_ret
   exact ⟨by rw [HR3.out]; rfl,HB0.out⟩
 ·have hr:R = (qe && ((an:Int) == 0) && ((sn:Int) == 1)):=by
   rw [HR.out]
   unfold rowB
   have ea:decide (args.length <= rA 12) = ((an:Int) == 0):=by rw [<- HAN.out]; rw [Bool.eq_iff_iff]; simp [rA]; try omega
   have es:decide (subs.length = rB 12) = ((sn:Int) == 1):=by rw [<- HSN.out]; rw [Bool.eq_iff_iff]; simp [rB]; try omega
   rw [ea,es]
   have h1:=HE.out
   simp only [rR,rS,rN,namedB]
   cases b <;> simp [h1]
  have HR2:=hid hr
  clear hr
  simp only [show ((12:Nat):Int) = 12 from rfl] at z0 ⊢
  rcases qe with _ | _
  ·skip
   have HR3:Hid (R = false):=hid (by rw [HR2.out]; simp)
   go_enter Tryz.func106,Tryz.ntmps106
   go_wp2_with (fail)
   go_ret
   exact ⟨by rw [HR3.out]; rfl,HB0.out⟩
  ·skip
   by_cases ha:an = 0
   case neg =>
    have hna:((an:Int) == 0) = false:=by simpa using ha
    have HR3:Hid (R = false):=hid (by rw [HR2.out]; simp [hna])
    go_enter Tryz.func106,Tryz.ntmps106
    go_wp2_with (fail)
    go_ret
    exact ⟨by rw [HR3.out]; rfl,HB0.out⟩
   subst ha
   by_cases hs:sn = 1
   case neg =>
    have hns:((sn:Int) == 1) = false:=by simp; omega
    have HR3:Hid (R = false):=hid (by rw [HR2.out]; simp [hns])
    go_enter Tryz.func106,Tryz.ntmps106
    go_wp2_with (fail)
    go_ret
    exact ⟨by rw [HR3.out]; rfl,HB0.out⟩
   subst hs
   have HR3:Hid (R = true):=hid (by rw [HR2.out]; simp)
   go_enter Tryz.func106,Tryz.ntmps106
   go_wp2_with (fail)
   go_ret
   exact ⟨by rw [HR3.out]; rfl,HB0.out⟩
 ·have hr:R = (qe && ((an:Int) == 0) && ((sn:Int) == 1)):=by
   rw [HR.out]
   unfold rowB
   have ea:decide (args.length <= rA 13) = ((an:Int) == 0):=by rw [<- HAN.out]; rw [Bool.eq_iff_iff]; simp [rA]; try omega
   have es:decide (subs.length = rB 13) = ((sn:Int) == 1):=by rw [<- HSN.out]; rw [Bool.eq_iff_iff]; simp [rB]; try omega
   rw [ea,es]
   have h1:=HE.out
   simp only [rR,rS,rN,namedB]
   cases b <;> simp [h1]
  have HR2:=hid hr
  clear hr
  simp only [show ((13:Nat):Int) = 13 from rfl] at z0 ⊢
  rcases qe with _ | _
  ·skip
   have HR3:Hid (R = false):=hid (by rw [HR2.out]; simp)
   go_enter Tryz.func106,Tryz.ntmps106
   go_wp2_with (fail)
   go_ret
   exact ⟨by rw [HR3.out]; rfl,HB0.out⟩
  ·skip
   by_cases ha:an = 0
   case neg =>
    have hna:((an:Int) == 0) = false:=by simpa using ha
    have HR3:Hid (R = false):=hid (by rw [HR2.out]; simp [hna])
    go_enter Tryz.func106,Tryz.ntmps106
    go_wp2_with (fail)
    go_ret
    exact ⟨by rw [HR3.out]; rfl,HB0.out⟩
   subst ha
   by_cases hs:sn = 1
   case neg =>
    have hns:((sn:Int) == 1) = false:=by simp; omega
    have HR3:Hid (R = false):=hid (by rw [HR2.out]; simp [hns])
    go_enter Tryz.func106,Tryz.ntmps106
    go_wp2_with (fail)
    go_ret
    exact ⟨by rw [HR3.out]; rfl,HB0.out⟩
   subst hs
   have HR3:Hid (R = true):=hid (by rw [HR2.out]; simp)
   go_enter Tryz.func106,Tryz.ntmps106
   go_wp2_with (fail)
   go_ret
   exact ⟨by rw [HR3.out]; rfl,HB0.out⟩
 ·have hr:R = (qe && ((an:Int) == 0) && ((sn:Int) == 2)):=by
   rw [HR.out]
   unfold rowB
   have ea:decide (args.length <= rA 4) = ((an:Int) == 0):=by rw [<- HAN.out]; rw [Bool.eq_iff_iff]; simp [rA]; try omega
   have es:decide (subs.length = rB 4) = ((sn:Int) == 2):=by rw [<- HSN.out]; rw [Bool.eq_iff_iff]; simp [rB]; try omega
   rw [ea,es]
   have h1:=HE.out
   simp only [rR,rS,rN,namedB]
   cases b <;> simp [h1]
  have HR2:=hid hr
  clear hr
  simp only [show ((4:Nat):Int) = 4 from rfl] at z0 ⊢
  rcases qe with _ | _
  ·skip
   have HR3:Hid (R = false):=hid (by rw [HR2.out]; simp)
   go_enter Tryz.func106,Tryz.ntmps106
   go_wp2_with (fail)
   go_ret
   exact ⟨by rw [HR3.out]; rfl,HB0.out⟩
  ·skip
   by_cases ha:an = 0
   case neg =>
    have hna:((an:Int) == 0) = false:=by simpa using ha
    have HR3:Hid (R = false):=hid (by rw [HR2.out]; simp [hna])
    go_enter Tryz.func106,Tryz.ntmps106
    go_wp2_with (fail)
    go_ret
    exact ⟨by rw [HR3.out]; rfl,HB0.out⟩
   subst ha
   by_cases hs:sn = 2
   case neg =>
    have hns:((sn:Int) == 2) = false:=by simp; omega
    have HR3:Hid (R = false):=hid (by rw [HR2.out]; simp [hns])
    go_enter Tryz.func106,Tryz.ntmps106
    go_wp2_with (fail)
    go_ret
    exact ⟨by rw [HR3.out]; rfl,HB0.out⟩
   subst hs
   have HR3:Hid (R = true):=hid (by rw [HR2.out]; simp)
   go_enter Tryz.func106,Tryz.ntmps106
   go_wp2_with (fail)
   go_ret
   exact ⟨by rw [HR3.out]; rfl,HB0.out⟩
 ·have hr:R = (qe && ((an:Int) == 0) && ((sn:Int) == 2)):=by
   rw [HR.out]
   unfold rowB
   have ea:decide (args.length <= rA 5) = ((an:Int) == 0):=by rw [<- HAN.out]; rw [Bool.eq_iff_iff]; simp [rA]; try omega
   have es:decide (subs.length = rB 5) = ((sn:Int) == 2):=by rw [<- HSN.out]; rw [Bool.eq_iff_iff]; simp [rB]; try omega
   rw [ea,es]
   have h1:=HE.out
   simp only [rR,rS,rN,namedB]
   cases b <;> simp [h1]
  have HR2:=hid hr
  clear hr
  simp only [show ((5:Nat):Int) = 5 from rfl] at z0 ⊢
  rcases qe with _ | _
  ·skip
   have HR3:Hid (R = false):=hid (by rw [HR2.out]; simp)
   go_enter Tryz.func106,Tryz.ntmps106
   go_wp2_with (fail)
   go_ret
   exact ⟨by rw [HR3.out]; rfl,HB0.out⟩
  ·skip
   by_cases ha:an = 0
   case neg =>
    have hna:((an:Int) == 0) = false:=by simpa using ha
    have HR3:Hid (R = false):=hid (by rw [HR2.out]; simp [hna])
    go_enter Tryz.func106,Tryz.ntmps106
    go_wp2_with (fail)
    go_ret
    exact ⟨by rw [HR3.out]; rfl,HB0.out⟩
   subst ha
   by_cases hs:sn = 2
   case neg =>
    have hns:((sn:Int) == 2) = false:=by simp; omega
    have HR3:Hid (R = false):=hid (by rw [HR2.out]; simp [hns])
    go_enter Tryz.func106,Tryz.ntmps106
    go_wp2_with (fail)
    go_ret
    exact ⟨by rw [HR3.out]; rfl,HB0.out⟩
   subst hs
   have HR3:Hid (R = true):=hid (by rw [HR2.out]; simp)
   go_enter Tryz.func106,Tryz.ntmps106
   go_wp2_with (fail)
   go_ret
   exact ⟨by rw [HR3.out]; rfl,HB0.out⟩
 ·have hr:R = (qe && ((an:Int) == 0) && ((sn:Int) == 2)):=by
   rw [HR.out]
   unfold rowB
   have ea:decide (args.length <= rA 6) = ((an:Int) == 0):=by rw [<- HAN.out]; rw [Bool.eq_iff_iff]; simp [rA]; try omega
   have es:decide (subs.length = rB 6) = ((sn:Int) == 2):=by rw [<- HSN.out]; rw [Bool.eq_iff_iff]; simp [rB]; try omega
   rw [ea,es]
   have h1:=HE.out
   simp only [rR,rS,rN,namedB]
   cases b <;> simp [h1]
  have HR2:=hid hr
  clear hr
  simp only [show ((6:Nat):Int) = 6 from rfl] at z0 ⊢
  rcases qe with _ | _
  ·skip
   have HR3:Hid (R = false):=hid (by rw [HR2.out]; simp)
   go_enter Tryz.func106,Tryz.ntmps106
   go_wp2_with (fail)
   go_ret
   exact ⟨by rw [HR3.out]; rfl,HB0.out⟩
  ·skip
   by_cases ha:an = 0
   case neg =>
    have hna:((an:Int) == 0) = false:=by simpa using ha
    have HR3:Hid (R = false):=hid (by rw [HR2.out]; simp [hna])
    go_enter Tryz.func106,Tryz.ntmps106
    go_wp2_with (fail)
    go_ret
    exact ⟨by rw [HR3.out]; rfl,HB0.out⟩
   subst ha
   by_cases hs:sn = 2
   case neg =>
    have hns:((sn:Int) == 2) = false:=by simp; omega
    have HR3:Hid (R = false):=hid (by rw [HR2.out]; simp [hns])
    go_enter Tryz.func106,Tryz.ntmps106
    go_wp2_with (fail)
    go_ret
    exact ⟨by rw [HR3.out]; rfl,HB0.out⟩
   subst hs
   have HR3:Hid (R = true):=hid (by rw [HR2.out]; simp)
   go_enter Tryz.func106,Tryz.ntmps106
   go_wp2_with (fail)
   go_ret
   exact ⟨by rw [HR3.out]; rfl,HB0.out⟩
 ·have hr:R = (qe && ((an:Int) == 0) && ((sn:Int) == 2)):=by
   rw [HR.out]
   unfold rowB
   have ea:decide (args.length <= rA 7) = ((an:Int) == 0):=by rw [<- HAN.out]; rw [Bool.eq_iff_iff]; simp [rA]; try omega
   have es:decide (subs.length = rB 7) = ((sn:Int) == 2):=by rw [<- HSN.out]; rw [Bool.eq_iff_iff]; simp [rB]; try omega
   rw [ea,es]
   have h1:=HE.out
   simp only [rR,rS,rN,namedB]
   cases b <;> simp [h1]
  have HR2:=hid hr
  clear hr
  simp only [show ((7:Nat):Int) = 7 from rfl] at z0 ⊢
  rcases qe with _ | _
  ·skip
   have HR3:Hid (R = false):=hid (by rw [HR2.out]; simp)
   go_enter Tryz.func106,Tryz.ntmps106
   go_wp2_with (fail)
   go_ret
   exact ⟨by rw [HR3.out]; rfl,HB0.out⟩
  ·skip
   by_cases ha:an = 0
   case neg =>
    have hna:((an:Int) == 0) = false:=by simpa using ha
    have HR3:Hid (R = false):=hid (by rw [HR2.out]; simp [hna])
    go_enter Tryz.func106,Tryz.ntmps106
    go_wp2_with (fail)
    go_ret
    exact ⟨by rw [HR3.out]; rfl,HB0.out⟩
   subst ha
   by_cases hs:sn = 2
   case neg =>
    have hns:((sn:Int) == 2) = false:=by simp; omega
    have HR3:Hid (R = false):=hid (by rw [HR2.out]; simp [hns])
    go_enter Tryz.func106,Tryz.ntmps106
    go_wp2_with (fail)
    go_ret
    exact ⟨by rw [HR3.out]; rfl,HB0.out⟩
   subst hs
   have HR3:Hid (R = true):=hid (by rw [HR2.out]; simp)
   go_enter Tryz.func106,Tryz.ntmps106
   go_wp2_with (fail)
   go_ret
   exact ⟨by rw [HR3.out]; rfl,HB0.out⟩
 ·have hr:R = (qe && ((an:Int) == 0) && ((sn:Int) == 2)):=by
   rw [HR.out]
   unfold rowB
   have ea:decide (args.length <= rA 14) = ((an:Int) == 0):=by rw [<- HAN.out]; rw [Bool.eq_iff_iff]; simp [rA]; try omega
   have es:decide (subs.length = rB 14) = ((sn:Int) == 2):=by rw [<- HSN.out]; rw [Bool.eq_iff_iff]; simp [rB]; try omega
   rw [ea,es]
   have h1:=HE.out
   simp only [rR,rS,rN,namedB]
   cases b <;> simp [h1]
  have HR2:=hid hr
  clear hr
  simp only [show ((14:Nat):Int) = 14 from rfl] at z0 ⊢
  rcases qe with _ | _
  ·skip
   have HR3:Hid (R = false):=hid (by rw [HR2.out]; simp)
   go_enter Tryz.func106,Tryz.ntmps106
   go_wp2_with (fail)
   go_ret
   exact ⟨by rw [HR3.out]; rfl,HB0.out⟩
  ·skip
   by_cases ha:an = 0
   case neg =>
    have hna:((an:Int) == 0) = false:=by simpa using ha
    have HR3:Hid (R = false):=hid (by rw [HR2.out]; simp [hna])
    go_enter Tryz.func106,Tryz.ntmps106
    go_wp2_with (fail)
    go_ret
    exact ⟨by rw [HR3.out]; rfl,HB0.out⟩
   subst ha
   by_cases hs:sn = 2
   case neg =>
    have hns:((sn:Int) == 2) = false:=by simp; omega
    have HR3:Hid (R = false):=hid (by rw [HR2.out]; simp [hns])
    go_enter Tryz.func106,Tryz.ntmps106
    go_wp2_with (fail)
    go_ret
    exact ⟨by rw [HR3.out]; rfl,HB0.out⟩
   subst hs
   have HR3:Hid (R = true):=hid (by rw [HR2.out]; simp)
   go_enter Tryz.func106,Tryz.ntmps106
   go_wp2_with (fail)
   go_ret
   exact ⟨by rw [HR3.out]; rfl,HB0.out⟩
 ·have hr:R = (qv && ((an:Int) == 0) && ((sn:Int) == 1)):=by
   rw [HR.out]
   unfold rowB
   have ea:decide (args.length <= rA 8) = ((an:Int) == 0):=by rw [<- HAN.out]; rw [Bool.eq_iff_iff]; simp [rA]; try omega
   have es:decide (subs.length = rB 8) = ((sn:Int) == 1):=by rw [<- HSN.out]; rw [Bool.eq_iff_iff]; simp [rB]; try omega
   rw [ea,es]
   have h1:=HE.out
   simp only [rR,rS,rN,namedB]
   cases b <;> simp [h1]
  have HR2:=hid hr
  clear hr
  simp only [show ((8:Nat):Int) = 8 from rfl] at z0 ⊢
  rcases qv with _ | _
  ·skip
   have HR3:Hid (R = false):=hid (by rw [HR2.out]; simp)
   go_enter Tryz.func106,Tryz.ntmps106
   go_wp2_with (go_at_call 66; ((with_reducible refine (HV.out _).mono ?_); rintro _ w2 ⟨rfl,rfl⟩))
   go_ret
   exact ⟨by rw [HR3.out]; rfl,HB0.out⟩
  ·skip
   by_cases ha:an = 0
   case neg =>
    have hna:((an:Int) == 0) = false:=by simpa using ha
    have HR3:Hid (R = false):=hid (by rw [HR2.out]; simp [hna])
    go_enter Tryz.func106,Tryz.ntmps106
    go_wp2_with (go_at_call 66; ((with_reducible refine (HV.out _).mono ?_); rintro _ w2 ⟨rfl,rfl⟩))
    go_ret
    exact ⟨by rw [HR3.out]; rfl,HB0.out⟩
   subst ha
   by_cases hs:sn = 1
   case neg =>
    have hns:((sn:Int) == 1) = false:=by simp; omega
    have HR3:Hid (R = false):=hid (by rw [HR2.out]; simp [hns])
    go_enter Tryz.func106,Tryz.ntmps106
    go_wp2_with (go_at_call 66; ((with_reducible refine (HV.out _).mono ?_); rintro _ w2 ⟨rfl,rfl⟩))
    go_ret
    exact ⟨by rw [HR3.out]; rfl,HB0.out⟩
   subst hs
   have HR3:Hid (R = true):=hid (by rw [HR2.out]; simp)
   go_enter Tryz.func106,Tryz.ntmps106
   go_wp2_with (go_at_call 66; ((with_reducible refine (HV.out _).mono ?_); rintro _ w2 ⟨rfl,rfl⟩))
   go_ret
   exact ⟨by rw [HR3.out]; rfl,HB0.out⟩
 ·have hr:R = (qv && ((an:Int) == 0) && ((sn:Int) == 1)):=by
   rw [HR.out]
   unfold rowB
   have ea:decide (args.length <= rA 9) = ((an:Int) == 0):=by rw [<- HAN.out]; rw [Bool.eq_iff_iff]; simp [rA]; try omega
   have es:decide (subs.length = rB 9) = ((sn:Int) == 1):=by rw [<- HSN.out]; rw [Bool.eq_iff_iff]; simp [rB]; try omega
   rw [ea,es]
   have h1:=HE.out
   simp only [rR,rS,rN,namedB]
   cases b <;> simp [h1]
  have HR2:=hid hr
  clear hr
  simp only [show ((9:Nat):Int) = 9 from rfl] at z0 ⊢
  rcases qv with _ | _
  ·skip
   have HR3:Hid (R = false):=hid (by rw [HR2.out]; simp)
   go_enter Tryz.func106,Tryz.ntmps106
   go_wp2_with (go_at_call 66; ((with_reducible refine (HV.out _).mono ?_); rintro _ w2 ⟨rfl,rfl⟩))
   go_ret
   exact ⟨by rw [HR3.out]; rfl,HB0.out⟩
  ·skip
   by_cases ha:an = 0
   case neg =>
    have hna:((an:Int) == 0) = false:=by simpa using ha
    have HR3:Hid (R = false):=hid (by rw [HR2.out]; simp [hna])
    go_enter Tryz.func106,Tryz.ntmps106
    go_wp2_with (go_at_call 66; ((with_reducible refine (HV.out _).mono ?_); rintro _ w2 ⟨rfl,rfl⟩))
    go_ret
    exact ⟨by rw [HR3.out]; rfl,HB0.out⟩
   subst ha
   by_cases hs:sn = 1
   case neg =>
    have hns:((sn:Int) == 1) = false:=by simp; omega
    have HR3:Hid (R = false):=hid (by rw [HR2.out]; simp [hns])
    go_enter Tryz.func106,Tryz.ntmps106
    go_wp2_with (go_at_call 66; ((with_reducible refine (HV.out _).mono ?_); rintro _ w2 ⟨rfl,rfl⟩))
    go_ret
    exact ⟨by rw [HR3.out]; rfl,HB0.out⟩
   subst hs
   have HR3:Hid (R = true):=hid (by rw [HR2.out]; simp)
   go_enter Tryz.func106,Tryz.ntmps106
   go_wp2_with (go_at_call 66; ((with_reducible refine (HV.out _).mono ?_); rintro _ w2 ⟨rfl,rfl⟩))
   go_ret
   exact ⟨by rw [HR3.out]; rfl,HB0.out⟩
 ·have hr:R = ((b && qo) && ((an:Int) == 0) && ((sn:Int) == 0)):=by
   rw [HR.out]
   unfold rowB
   have ea:decide (args.length <= rA 15) = ((an:Int) == 0):=by rw [<- HAN.out]; rw [Bool.eq_iff_iff]; simp [rA]; try omega
   have es:decide (subs.length = rB 15) = ((sn:Int) == 0):=by rw [<- HSN.out]; rw [Bool.eq_iff_iff]; simp [rB]; try omega
   rw [ea,es]
   have h1:=HE.out
   simp only [rR,rS,rN,namedB]
   cases b <;> simp [h1]
  have HR2:=hid hr
  clear hr
  simp only [show ((15:Nat):Int) = 15 from rfl] at z0 ⊢
  rcases b with _ | _
  ·skip
   have HR3:Hid (R = false):=hid (by rw [HR2.out]; simp)
   go_enter Tryz.func106,Tryz.ntmps106
   go_wp2_with (go_at_call 122; ((with_reducible refine (HO.out _).mono ?_); rintro _ w2 ⟨rfl,rfl⟩))
   go_ret
   exact ⟨by rw [HR3.out]; rfl,HB0.out⟩
  ·skip
   rcases qo with _ | _
   ·skip
    have HR3:Hid (R = false):=hid (by rw [HR2.out]; simp)
    go_enter Tryz.func106,Tryz.ntmps106
    go_wp2_with (go_at_call 122; ((with_reducible refine (HO.out _).mono ?_); rintro _ w2 ⟨rfl,rfl⟩))
    go_ret
    exact ⟨by rw [HR3.out]; rfl,HB0.out⟩
   ·skip
    by_cases ha:an = 0
    case neg =>
     have hna:((an:Int) == 0) = false:=by simpa using ha
     have HR3:Hid (R = false):=hid (by rw [HR2.out]; simp [hna])
     go_enter Tryz.func106,Tryz.ntmps106
     go_wp2_with (go_at_call 122; ((with_reducible refine (HO.out _).mono ?_); rintro _ w2 ⟨rfl,rfl⟩))
     go_ret
     exact ⟨by rw [HR3.out]; rfl,HB0.out⟩
    subst ha
    by_cases hs:sn = 0
    case neg =>
     have hns:((sn:Int) == 0) = false:=by simp; omega
     have HR3:Hid (R = false):=hid (by rw [HR2.out]; simp [hns])
     go_enter Tryz.func106,Tryz.ntmps106
     go_wp2_with (go_at_call 122; ((with_reducible refine (HO.out _).mono ?_); rintro _ w2 ⟨rfl,rfl⟩))
     go_ret
     exact ⟨by rw [HR3.out]; rfl,HB0.out⟩
    subst hs
    have HR3:Hid (R = true):=hid (by rw [HR2.out]; simp)
    go_enter Tryz.func106,Tryz.ntmps106
    go_wp2_with (go_at_call 122; ((with_reducible refine (HO.out _).mono ?_); rintro _ w2 ⟨rfl,rfl⟩))
    go_ret
    exact ⟨by rw [HR3.out]; rfl,HB0.out⟩
 ·have hr:R = (b && qo && ((an:Int) == 2) && ((sn:Int) == 0) && instB args):=by
   rw [HR.out]
   unfold rowB
   have es:decide (subs.length = rB 16) = ((sn:Int) == 0):=by rw [<- HSN.out]; rw [Bool.eq_iff_iff]; simp [rB]
   have ea:(instB args && decide (args.length <= rA 16)) = (((an:Int) == 2) && instB args):=by
    rw [HAN.out]
    match args with
    | [] => rfl
    | [_] => rfl
    | [x,t] => simp [rA]
    | _ :: _ :: _ :: r => simp [instB]
   have h1:=HE.out
   rw [es]
   simp only [rR,rS,rN,namedB]
   revert ea
   cases b <;> simp [h1] <;> (intro ea; revert ea; cases qo <;> cases instB args <;> cases decide (args.length <= rA 16) <;> cases ((an:Int) == 2) <;> simp)
  have HR2:=hid hr
  clear hr
  simp only [show ((16:Nat):Int) = 16 from rfl] at z0 ⊢
  rcases b with _ | _
  case false =>
   have HR3:Hid (R = false):=hid (by rw [HR2.out]; simp)
   go_enter Tryz.func106,Tryz.ntmps106
   go_wp2_with (first | (go_at_call 122; ((with_reducible refine (HO.out _).mono ?_); rintro _ w2 ⟨rfl,rfl⟩)) | (go_at_call 66; ((with_reducible refine (HVX.out _).mono ?_); rintro _ w2 ⟨rfl,rfl⟩)) | (go_at_call 102; ((with_reducible refine (HTT.out _).mono ?_); rintro _ w2 ⟨rfl,rfl⟩)))
   go_ret
   exact ⟨by rw [HR3.out]; rfl,HB0.out⟩
  rcases qo with _ | _
  case false =>
   have HR3:Hid (R = false):=hid (by rw [HR2.out]; simp)
   go_enter Tryz.func106,Tryz.ntmps106
   go_wp2_with (first | (go_at_call 122; ((with_reducible refine (HO.out _).mono ?_); rintro _ w2 ⟨rfl,rfl⟩)) | (go_at_call 66; ((with_reducible refine (HVX.out _).mono ?_); rintro _ w2 ⟨rfl,rfl⟩)) | (go_at_call 102; ((with_reducible refine (HTT.out _).mono ?_); rintro _ w2 ⟨rfl,rfl⟩)))
   go_ret
   exact ⟨by rw [HR3.out]; rfl,HB0.out⟩
  by_cases ha:an = 2
  case neg =>
   have hna:((an:Int) == 2) = false:=by simp; omega
   have HR3:Hid (R = false):=hid (by rw [HR2.out]; simp [hna])
   go_enter Tryz.func106,Tryz.ntmps106
   go_wp2_with (first | (go_at_call 122; ((with_reducible refine (HO.out _).mono ?_); rintro _ w2 ⟨rfl,rfl⟩)) | (go_at_call 66; ((with_reducible refine (HVX.out _).mono ?_); rintro _ w2 ⟨rfl,rfl⟩)) | (go_at_call 102; ((with_reducible refine (HTT.out _).mono ?_); rintro _ w2 ⟨rfl,rfl⟩)))
   go_ret
   exact ⟨by rw [HR3.out]; rfl,HB0.out⟩
  subst ha
  by_cases hs:sn = 0
  case neg =>
   have hns:((sn:Int) == 0) = false:=by simp; omega
   have HR3:Hid (R = false):=hid (by rw [HR2.out]; simp [hns])
   go_enter Tryz.func106,Tryz.ntmps106
   go_wp2_with (first | (go_at_call 122; ((with_reducible refine (HO.out _).mono ?_); rintro _ w2 ⟨rfl,rfl⟩)) | (go_at_call 66; ((with_reducible refine (HVX.out _).mono ?_); rintro _ w2 ⟨rfl,rfl⟩)) | (go_at_call 102; ((with_reducible refine (HTT.out _).mono ?_); rintro _ w2 ⟨rfl,rfl⟩)))
   go_ret
   exact ⟨by rw [HR3.out]; rfl,HB0.out⟩
  subst hs
  obtain ⟨x,t,rfl⟩:∃ x t,args = [x,t]:=by
   have h:=HAN.out
   match args,h with
   | [x,t],_ => exact ⟨x,t,rfl⟩
  obtain ⟨g,o,hga⟩:=ts_pos HA.out (by omega)
  subst hga
  have hp:=HA.out.turn (sn_up HB0.out)
  obtain ⟨s0,p0,p1,p2,_,pz⟩:=ts_at (k:=0) (t:=x) hp rfl
  obtain ⟨s1,r0,r1,r2,_,qz⟩:=ts_at (k:=1) (t:=t) hp rfl
  clear p2 r2 hp
  simp only [Nat.zero_mul,Nat.one_mul,Nat.add_zero,show ((16:Nat):Int) = 16 from rfl] at p0 p1 r0 r1
  have hvx:=fun W => variable_call W x.name pz
  have htt:=fun W => ofTerms_call W t.name qz
  have hin:instB [x,t] = (x.var && checkB varB digitB x.name && t.var && tmB t.name):=rfl
  obtain ⟨xv,e1⟩:∃ q,q = x.var:=⟨_,rfl⟩
  obtain ⟨xn,e2⟩:∃ q,q = checkB varB digitB x.name:=⟨_,rfl⟩
  obtain ⟨tv,e3⟩:∃ q,q = t.var:=⟨_,rfl⟩
  obtain ⟨tn,e4⟩:∃ q,q = tmB t.name:=⟨_,rfl⟩
  rw [<- e1,<- e2,<- e3,<- e4] at hin
  rw [<- e1] at p0
  rw [<- e3] at r0
  rw [<- e2] at hvx
  rw [<- e4] at htt
  have HVX:=hid hvx
  have HTT:=hid htt
  have hr:R = (xv && xn && tv && tn):=by rw [HR2.out,hin]; simp
  clear HR2
  have HR2:=hid hr
  clear hvx htt hin hr e1 e2 e3 e4 pz qz
  rcases xv with _ | _
  case false =>
   have HR3:Hid (R = false):=hid (by rw [HR2.out]; simp)
   go_enter Tryz.func106,Tryz.ntmps106
   go_wp2_with (first | (go_at_call 122; ((with_reducible refine (HO.out _).mono ?_); rintro _ w2 ⟨rfl,rfl⟩)) | (go_at_call 66; ((with_reducible refine (HVX.out _).mono ?_); rintro _ w2 ⟨rfl,rfl⟩)) | (go_at_call 102; ((with_reducible refine (HTT.out _).mono ?_); rintro _ w2 ⟨rfl,rfl⟩)))
   go_ret
   exact ⟨by rw [HR3.out]; rfl,HB0.out⟩
  rcases xn with _ | _
  case false =>
   have HR3:Hid (R = false):=hid (by rw [HR2.out]; simp)
   go_enter Tryz.func106,Tryz.ntmps106
   go_wp2_with (first | (go_at_call 122; ((with_reducible refine (HO.out _).mono ?_); rintro _ w2 ⟨rfl,rfl⟩)) | (go_at_call 66; ((with_reducible refine (HVX.out _).mono ?_); rintro _ w2 ⟨rfl,rfl⟩)) | (go_at_call 102; ((with_reducible refine (HTT.out _).mono ?_); rintro _ w2 ⟨rfl,rfl⟩)))
   go_ret
   exact ⟨by rw [HR3.out]; rfl,HB0.out⟩
  rcases tv with _ | _
  case false =>
   have HR3:Hid (R = false):=hid (by rw [HR2.out]; simp)
   go_enter Tryz.func106,Tryz.ntmps106
   go_wp2_with (first | (go_at_call 122; ((with_reducible refine (HO.out _).mono ?_); rintro _ w2 ⟨rfl,rfl⟩)) | (go_at_call 66; ((with_reducible refine (HVX.out _).mono ?_); rintro _ w2 ⟨rfl,rfl⟩)) | (go_at_call 102; ((with_reducible refine (HTT.out _).mono ?_); rintro _ w2 ⟨rfl,rfl⟩)))
   go_ret
   exact ⟨by rw [HR3.out]; rfl,HB0.out⟩
  rcases tn with _ | _
  case false =>
   have HR3:Hid (R = false):=hid (by rw [HR2.out]; simp)
   go_enter Tryz.func106,Tryz.ntmps106
   go_wp2_with (first | (go_at_call 122; ((with_reducible refine (HO.out _).mono ?_); rintro _ w2 ⟨rfl,rfl⟩)) | (go_at_call 66; ((with_reducible refine (HVX.out _).mono ?_); rintro _ w2 ⟨rfl,rfl⟩)) | (go_at_call 102; ((with_reducible refine (HTT.out _).mono ?_); rintro _ w2 ⟨rfl,rfl⟩)))
   go_ret
   exact ⟨by rw [HR3.out]; rfl,HB0.out⟩
  case true =>
   have HR3:Hid (R = true):=hid (by rw [HR2.out]; simp)
   go_enter Tryz.func106,Tryz.ntmps106
   go_wp2_with (first | (go_at_call 122; ((with_reducible refine (HO.out _).mono ?_); rintro _ w2 ⟨rfl,rfl⟩)) | (go_at_call 66; ((with_reducible refine (HVX.out _).mono ?_); rintro _ w2 ⟨rfl,rfl⟩)) | (go_at_call 102; ((with_reducible refine (HTT.out _).mono ?_); rintro _ w2 ⟨rfl,rfl⟩)))
   go_ret
   exact ⟨by rw [HR3.out]; rfl,HB0.out⟩
end Go.Proofs.YtdobflpbkfkmgaaGreatDoor
