import Derived.Test.YtflmllablfjfeaaDoorFrl
namespace Go.Proofs.YtflmllablfjfeaaDoor
open Go.RowKit Go.HK Go.FR Lib
set_option linter.unusedVariables false
set_option linter.unusedSimpArgs false
set_option linter.unusedSectionVars false
def rightF (f:Fm):Bool:=goodF 40 1 f && decide ((nodesF f:Int) <= 400)
set_option maxRecDepth 100000 in
set_option maxHeartbeats 1000000 in
theorem right_call (w:World) (f:Fm) (av sv:SL) (hrw:IsRows w) (hN:nodesF f <= 10000) (hT:IsTs (fun k => k < w.heap.size) w av f.args) (hS:IsFs (fun k => k < w.heap.size) w sv f.subs) (hop:f.op < 256) (hz:f.name.size <= maxLen) :
  Calls Tryd.prog 66 #[.agg #[.int .u8 (f.op:Int),.string f.name,av.v,sv.v]] w (RetW w (rightF f)):=by
 have hcall:=fun (o:Obj) => form_ok f ((w.alloc o).alloc (.cells #[.bool false,.int .i64 400,.int .i64 40] 115)) (w.heap.size + 1) w.heap.size 400 40 1 av sv
  (by unfold JB; have:=HK.blk_new (w.alloc o) (.cells #[.bool false,.int .i64 400,.int .i64 40] 115); simpa using this)
  (hrw.turn (by rw [Below.heap_alloc _ _ _ (by have:=hrw.pos; simp),Below.heap_alloc _ _ _ hrw.pos])) (by omega) (by omega) (by omega) (by simp; omega)
  (hT.turn fun k hk => ⟨⟨by omega,hk⟩,by rw [Below.heap_alloc _ _ _ (by simp; omega),Below.heap_alloc _ _ _ hk]⟩)
  (hS.turn fun k hk => ⟨⟨by omega,hk⟩,by rw [Below.heap_alloc _ _ _ (by simp; omega),Below.heap_alloc _ _ _ hk]⟩) hop hz
 have HB:Hid (∀ (o:Obj) (W:World),FJ (w.heap.size + 1) ((w.alloc o).alloc (.cells #[.bool false,.int .i64 400,.int .i64 40] 115)) W -> Below w.heap.size w W):=hid fun o W h => (((Below.refl _ w).alloc (Nat.le_refl _) _).alloc (by simp) _).trans (h.below (by simp; omega) (fun k hk => by omega))
 unfold rightF
 obtain ⟨ok,hok⟩:∃ ok,ok = (goodF 40 1 f && decide ((nodesF f:Int) <= 400)):=⟨_,rfl⟩
 rw [<- hok] at hcall ⊢
 unfold RetJ at hcall
 obtain ⟨op,nm,args,subs⟩:=f
 obtain ⟨aa,an,ac⟩:=av
 obtain ⟨sa,sn,sc⟩:=sv
 simp only [FR.Fm.op,FR.Fm.name,SL.v,show ((1:Nat):Int) = 1 from rfl,show ((40:Nat):Int) = 40 from rfl] at hcall ⊢
 have HC:=hid hcall
 clear hcall hok hrw hN hT hS hop hz
 go_enter Tryd.func66,Tryd.ntmps66
 go_wp2_with (go_at_call 76; ((with_reducible refine (HC.out _).mono ?_); rintro e w1 ⟨rfl,hF,_⟩))
 go_ret
 exact ⟨rfl,HB.out _ _ hF⟩
mutual
def opsF (kind:Nat):Fm -> Bool
 | .mk op nm args subs => decide (args.length = 0) && ((decide (kind = 4) && (decide (op = 10) || decide (op = 11))) || (decide (1 <= op) && decide (op <= 7))) && opsL kind subs
def opsL (kind:Nat):List Fm -> Bool
 | [] => true
 | f :: r => opsF kind f && opsL kind r
end
theorem opsL_append (kind:Nat):∀ a b:List Fm,opsL kind (a ++ b) = (opsL kind a && opsL kind b)
 | [],b => by simp [opsL]
 | f :: a,b => by simp only [List.cons_append,opsL,opsL_append kind a b,Bool.and_assoc]
def OpsOkQ (kind:Nat) (Q:Fm -> Bool) (f:Fm):Prop:=∀ (w:World) (n0:Nat) (av sv:SL),n0 <= w.heap.size -> nodesF f <= 1000000 -> IsTs (fun k => k < n0) w av f.args -> IsFs (fun k => k < n0) w sv f.subs -> f.op < 256 -> f.name.size <= maxLen ->
 Calls Tryd.prog 67 #[.int .u8 (kind:Int),.agg #[.int .u8 (f.op:Int),.string f.name,av.v,sv.v]] w (RetW w (Q f))
def OpsOk (kind:Nat) (f:Fm):Prop:=OpsOkQ kind (opsF kind) f
theorem lt_turn {n0:Nat} {A C:World} (h:Below A.heap.size A C) (hn:n0 <= A.heap.size):∀ k,k < n0 -> k < n0 /\ C.heap[k]? = A.heap[k]?:=fun k hk => ⟨hk,h.block k (Nat.lt_of_lt_of_le hk hn)⟩
theorem below_tr {A B C:World} (h:Below A.heap.size A B) (h2:Below B.heap.size B C):Below A.heap.size A C:=h.trans (h2.mono h.size)
set_option maxRecDepth 100000 in
set_option maxHeartbeats 2000000 in
theorem ops_of (kind op:Nat) (nm:ByteArray) (args:List Tm) (subs:List Fm) (hk:kind = 3 ∨ kind = 4) (IH:∀ f ∈ subs,OpsOk kind f):OpsOk kind (.mk op nm args subs):=by
 intro w n0 av sv hn0 hd hT hS hop hz
 obtain ⟨aa,an,ac⟩:=av
 obtain ⟨sa,sn,sc⟩:=sv
 simp only [FR.Fm.op,FR.Fm.name,FR.Fm.args,FR.Fm.subs,SL.v] at hT hS hop hz ⊢
 have HAN:Hid (an = args.length):=hid hT.len
 have HSN:Hid (sn = subs.length):=hid hS.len
 obtain ⟨R,hR⟩:∃ R,R = opsF kind (.mk op nm args subs):=⟨_,rfl⟩
 rw [<- hR]
 have HR:Hid (R = (decide (args.length = 0) && ((decide (kind = 4) && (decide (op = 10) || decide (op = 11))) || (decide (1 <= op) && decide (op <= 7))) && opsL kind subs)):=hid (by rw [hR]; unfold opsF; rfl)
 have HLN:Hid (sn <= 1000000):=hid (by
  have:=nodesL_len subs
  have:=HSN.out
  have:nodesF (.mk op nm args subs) = 1 + nodesTs args + nodesL subs:=by unfold nodesF; rfl
  omega)
 have HND:Hid (∀ t ∈ subs,nodesF t <= 1000000):=hid (by
  intro t ht
  obtain ⟨i,hi⟩:=List.mem_iff_getElem?.1 ht
  have hsp:=split_at hi
  have h2:nodesF (.mk op nm args subs) = 1 + nodesTs args + nodesL subs:=by unfold nodesF; rfl
  have h3:nodesL subs = nodesL (subs.take i) + (nodesF t + nodesL (subs.drop (i + 1))):=by conv => lhs; rw [hsp]; rw [nodesL_append,nodesL_append]; simp [nodesL]
  omega)
 clear hR hd
 have HS:=hid hS
 have HN0:=hid hn0
 have HIH:=hid IH
 clear hT hS hn0 hz IH
 have HB1:Hid (∀ o,Below w.heap.size w (w.alloc o)):=hid fun o => (Below.refl _ w).alloc (Nat.le_refl _) _
 by_cases hga:an = 0
 ·subst hga
  obtain ⟨ob,hob⟩:∃ ob,ob = ((decide (kind = 4) && (decide (op = 10) || decide (op = 11))) || (decide (1 <= op) && decide (op <= 7))):=⟨_,rfl⟩
  cases ob
  ·have hres:Hid (R = false):=hid (by rw [HR.out,<- hob]; simp)
   have HOB:=hid hob
   clear hob
   rcases hk with rfl | rfl
   ·have o1:¬ (1 <= op /\ op <= 7):=by have:=HOB.out; simpa using this
    by_cases h1:(op:Int) < 1
    ·go_enter Tryd.func67,Tryd.ntmps67
     go_wp2_with (fail)
     go_ret
     exact ⟨by rw [hres.out]; rfl,HB1.out _⟩
    ·have h2:(7:Int) < (op:Int):=by omega
     go_enter Tryd.func67,Tryd.ntmps67
     go_wp2_with (fail)
     go_ret
     exact ⟨by rw [hres.out]; rfl,HB1.out _⟩
   ·have o1:¬ (1 <= op /\ op <= 7) /\ ¬ op = 10 /\ ¬ op = 11:=by have:=HOB.out; simp at this; omega
    have d10:((op:Int) == 10) = false:=by simp; omega
    have d11:((op:Int) == 11) = false:=by simp; omega
    have d10':¬ (op:Int) = 10:=by omega
    have d11':¬ (op:Int) = 11:=by omega
    by_cases h1:(op:Int) < 1
    ·clear o1
     go_enter Tryd.func67,Tryd.ntmps67
     go_wp2_with (fail)
     go_ret
     exact ⟨by rw [hres.out]; rfl,HB1.out _⟩
    ·have h2:(7:Int) < (op:Int):=by omega
     clear o1
     go_enter Tryd.func67,Tryd.ntmps67
     go_wp2_with (fail)
     go_ret
     exact ⟨by rw [hres.out]; rfl,HB1.out _⟩
  ·have HR3:Hid (R = opsL kind subs):=hid (by rw [HR.out,<- hob,decide_eq_true (show args.length = 0 from HAN.out.symm)]; simp)
   have hcs:(kind = 3 /\ 1 <= op /\ op <= 7) ∨ (kind = 4 /\ 1 <= op /\ op <= 7) ∨ (kind = 4 /\ op = 10) ∨ (kind = 4 /\ op = 11):=by simp at hob; omega
   clear hob HR HAN hk
   have hsn6:=HLN.out
   have hqa:=opsL_append kind
   have hq1:∀ t r,opsL kind (t :: r) = (opsF kind t && opsL kind r):=fun t r => by simp [opsL]
   have hq0:opsL kind [] = true:=by simp [opsL]
   have hih0:∀ f ∈ subs,OpsOkQ kind (opsF kind) f:=HIH.out
   have hr3:=HR3.out
   clear HIH HR3
   obtain ⟨Q,hQ⟩:∃ Q,Q = opsF kind:=⟨_,rfl⟩
   obtain ⟨QL,hQL⟩:∃ QL,QL = opsL kind:=⟨_,rfl⟩
   rw [<- hQL] at hqa hq1 hq0 hr3
   rw [<- hQ] at hih0 hq1
   have HQA:=hid hqa
   have HQ1:=hid hq1
   have HQ0:=hid hq0
   have HIH:=hid hih0
   have HR3:=hid hr3
   clear hQ hQL hqa hq1 hq0 hih0 hr3
   rcases hcs with ⟨rfl,o1,o2⟩ | ⟨rfl,o1,o2⟩ | ⟨rfl,rfl⟩ | ⟨rfl,rfl⟩
   case' inl =>
    have d1:¬ (op:Int) < 1:=by omega
    have d7:¬ (7:Int) < (op:Int):=by omega
   case' inr.inl =>
    have d1:¬ (op:Int) < 1:=by omega
    have d7:¬ (7:Int) < (op:Int):=by omega
    have d10:((op:Int) == 10) = false:=by simp; omega
    have d11:((op:Int) == 11) = false:=by simp; omega
    have d10':¬ (op:Int) = 10:=by omega
    have d11':¬ (op:Int) = 11:=by omega
   all_goals (
    try simp only [show ((3:Nat):Int) = 3 from rfl,show ((4:Nat):Int) = 4 from rfl,show ((10:Nat):Int) = 10 from rfl,show ((11:Nat):Int) = 11 from rfl]
    go_enter Tryd.func67,Tryd.ntmps67
    go_wp2_with (fail)
    go_loopw [41] (fun i wr => ∃ k:Nat,k <= sn /\ i = .int .i64 k /\ Below w.heap.size w wr /\ QL (subs.take k) = true) (fun i _ => sn - (intOf i).toNat)
    case atStart => exact ⟨0,by omega,rfl,HB1.out _,HQ0.out⟩
    case round =>
     obtain ⟨k,hk,rfl,hF,hgk⟩:=hrel
     by_cases hkn:(k:Int) < (sn:Int)
     ·have b0:(0:Int) <= (k:Int):=by omega
      obtain ⟨t,ht⟩:∃ t,subs[k]? = some t:=⟨_,List.getElem?_eq_getElem (by rw [<- HSN.out]; omega)⟩
      obtain ⟨g,o,rfl⟩:=HS.out.pos (show 0 < sn by omega)
      obtain ⟨a,s,c0,c1,c2,c3,hta,hts,hto,hz⟩:=fs_at (HS.out.turn (lt_turn hF HN0.out)) ht
      have hsp:=split_at ht
      have hGs:QL subs = (QL (subs.take k) && (Q t && QL (subs.drop (k + 1)))):=by conv => lhs; rw [hsp]; rw [HQA.out,HQA.out,HQ1.out,HQ0.out,Bool.and_true]
      have hG1:QL (subs.take (k + 1)) = (QL (subs.take k) && Q t):=by rw [take_one ht,HQA.out,HQ1.out,HQ0.out,Bool.and_true]
      rw [hgk,Bool.true_and] at hGs hG1
      have hih:=fun (o:Obj) => HIH.out t (List.mem_of_getElem? ht) (wr.alloc o) n0 a s (Nat.le_trans HN0.out (Nat.le_trans hF.size (by simp))) (HND.out t (List.mem_of_getElem? ht)) (hta.turn (lt_turn ((Below.refl _ wr).alloc (Nat.le_refl _) o) (Nat.le_trans HN0.out hF.size))) (hts.turn (lt_turn ((Below.refl _ wr).alloc (Nat.le_refl _) o) (Nat.le_trans HN0.out hF.size))) hto hz
      unfold RetW at hih
      have HBN:Hid (∀ (o:Obj) (W:World),Below (wr.alloc o).heap.size (wr.alloc o) W -> Below w.heap.size w W):=hid fun o W h => (hF.alloc hF.size o).trans (h.mono (Nat.le_trans hF.size (by simp)))
      obtain ⟨gt,hgt⟩:∃ gt,gt = Q t:=⟨_,rfl⟩
      rw [<- hgt] at hih hGs hG1
      clear hgt hsp
      obtain ⟨top,tname,targs,tsubs⟩:=t
      obtain ⟨ta,tn,tc⟩:=a
      obtain ⟨ua,un,uc⟩:=s
      simp only [FR.Fm.op,FR.Fm.name,SL.v,show ((3:Nat):Int) = 3 from rfl,show ((4:Nat):Int) = 4 from rfl] at c0 c1 c2 c3 hih
      have HIHC:=hid hih
      have HGS:=hid hGs
      have HG1:=hid hG1
      clear hih hF hGs hG1 hta hts hto hz hgk ht
      cases gt
      ·have hfin:Hid (R = false):=hid (by rw [HR3.out,HGS.out]; rfl)
       go_wp2_with (go_at_call 67; ((with_reducible refine (HIHC.out _).mono ?_); rintro e w4 ⟨rfl,hF1⟩))
       go_ret
       exact ⟨by rw [hfin.out]; rfl,HBN.out _ _ hF1⟩
      ·go_wp2_with (go_at_call 67; ((with_reducible refine (HIHC.out _).mono ?_); rintro e w4 ⟨rfl,hF1⟩))
       go_roundw
       case rel => exact ⟨k + 1,by omega,by go_num,HBN.out _ _ hF1,HG1.out⟩
       case measure => simp [intOf]; omega
     ·obtain rfl:k = sn:=by omega
      have htk:subs.take k = subs:=List.take_of_length_le (by rw [HSN.out]; exact Nat.le_refl _)
      rw [htk] at hgk
      have HF:=hid hF
      have HE:=hid (show R = true by rw [HR3.out,hgk])
      clear hgk hF htk
      go_wp2_with (fail)
      go_ret
      exact ⟨by rw [HE.out]; rfl,HF.out⟩)
 ·have hres:Hid (R = false):=hid (by rw [HR.out,decide_eq_false (show ¬ args.length = 0 by rw [<- HAN.out]; exact hga)]; simp)
  have ha:(0:Int) < (an:Int):=by omega
  clear hga
  rcases hk with rfl | rfl
  ·go_enter Tryd.func67,Tryd.ntmps67
   go_wp2_with (fail)
   go_ret
   exact ⟨by rw [hres.out]; rfl,HB1.out _⟩
  ·go_enter Tryd.func67,Tryd.ntmps67
   go_wp2_with (fail)
   all_goals (
    go_ret
    exact ⟨by rw [hres.out]; rfl,HB1.out _⟩)
mutual
theorem ops_ok (kind:Nat) (hk:kind = 3 ∨ kind = 4):∀ f:Fm,OpsOk kind f
 | .mk op nm args subs => ops_of kind op nm args subs hk (ops_all kind hk subs)
theorem ops_all (kind:Nat) (hk:kind = 3 ∨ kind = 4):∀ (l:List Fm),∀ f ∈ l,OpsOk kind f
 | [],f,h => by cases h
 | u :: r,f,h => by
  rcases List.mem_cons.1 h with h | h
  ·rw [h]; exact ops_ok kind hk u
  ·exact ops_all kind hk r f h
end
def rightK (kind:Nat) (f:Fm):Bool:=rightF f && opsF kind f
set_option maxRecDepth 100000 in
set_option maxHeartbeats 1000000 in
theorem fright_call (w:World) (kind:Nat) (hk:kind = 3 ∨ kind = 4) (f:Fm) (av sv:SL) (hrw:IsRows w) (hN:nodesF f <= 10000) (hT:IsTs (fun k => k < w.heap.size) w av f.args) (hS:IsFs (fun k => k < w.heap.size) w sv f.subs) (hop:f.op < 256) (hz:f.name.size <= maxLen) :
  Calls Tryd.prog 37 #[.int .u8 (kind:Int),.agg #[.int .u8 (f.op:Int),.string f.name,av.v,sv.v]] w (RetW w (rightK kind f)):=by
 have h1:=fun (o:Obj) => right_call (w.alloc o) f av sv (hrw.turn (Below.heap_alloc _ _ _ hrw.pos)) hN (hT.turn fun k hk => ⟨by simp; omega,Below.heap_alloc _ _ _ hk⟩) (hS.turn fun k hk => ⟨by simp; omega,Below.heap_alloc _ _ _ hk⟩) hop hz
 have h2:=fun (W:World) (hB:Below w.heap.size w W) => ops_ok kind hk f W w.heap.size av sv hB.size (by omega) (hT.turn (lt_turn hB (Nat.le_refl _))) (hS.turn (lt_turn hB (Nat.le_refl _))) hop hz
 unfold RetW at h1 h2
 have HBN:Hid (∀ (o:Obj) (W:World),Below (w.alloc o).heap.size (w.alloc o) W -> Below w.heap.size w W):=hid fun o W h => ((Below.refl _ w).alloc (Nat.le_refl _) o).trans (h.mono (by simp))
 have HBO:Hid (∀ (o:Obj) (W:World),Below (w.alloc o).heap.size (w.alloc o) W -> W.heap[w.heap.size]? = some o):=hid fun o W h => (h.block _ (by simp)).trans (HK.blk_new w o)
 unfold rightK
 obtain ⟨b1,hb1⟩:∃ b,b = rightF f:=⟨_,rfl⟩
 obtain ⟨b2,hb2⟩:∃ b,b = opsF kind f:=⟨_,rfl⟩
 rw [<- hb1] at h1 ⊢
 rw [<- hb2] at h2 ⊢
 obtain ⟨op,nm,args,subs⟩:=f
 obtain ⟨aa,an,ac⟩:=av
 obtain ⟨sa,sn,sc⟩:=sv
 simp only [FR.Fm.op,FR.Fm.name,SL.v] at h1 h2 ⊢
 have H2:=hid h2
 have H1:=hid h1
 clear h1 h2 hb1 hb2 hrw hN hT hS hop hz
 rcases hk with rfl | rfl
 all_goals (
  have h3:=H2.out
  clear H2
  simp only [show ((3:Nat):Int) = 3 from rfl,show ((4:Nat):Int) = 4 from rfl] at h3 ⊢
  have H2:=hid h3
  clear h3
  cases b1
  ·go_enter Tryd.func37,Tryd.ntmps37
   go_wp2_with (go_at_call 66; ((with_reducible refine (H1.out _).mono ?_); rintro e w1 ⟨rfl,hB⟩))
   go_ret
   exact ⟨rfl,HBN.out _ _ hB⟩
  ·go_enter Tryd.func37,Tryd.ntmps37
   go_wp2_with (first
    | (go_at_call 66; ((with_reducible refine (H1.out _).mono ?_); rintro e w1 ⟨rfl,hB⟩; have hbo:=HBO.out _ _ hB; have c0:=HK.blk_cell hbo 0; have c1:=HK.blk_cell hbo 1; have c2:=HK.blk_cell hbo 2; have c3:=HK.blk_cell hbo 3; have HB0:=hid (HBN.out _ _ hB); clear hB hbo))
    | (go_at_call 67; ((with_reducible refine (H2.out _ HB0.out).mono ?_); rintro e w2 ⟨rfl,hB2⟩)))
   go_ret
   exact ⟨rfl,HB0.out.trans (hB2.mono HB0.out.size)⟩)
end Go.Proofs.YtflmllablfjfeaaDoor
