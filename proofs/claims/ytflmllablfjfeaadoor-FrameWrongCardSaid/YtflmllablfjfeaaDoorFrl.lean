import Derived.Test.YtflmllablfjfeaaDoorFrk
namespace Go.Proofs.YtflmllablfjfeaaDoor
open Go.RowKit Go.HK Go.FR Lib
set_option linter.unusedVariables false
set_option linter.unusedSimpArgs false
set_option linter.unusedSectionVars false
def namedB (n:Nat) (s:ByteArray):Bool:=if n = 1 then checkB capB alnumB s else if n = 2 then checkB varB digitB s else if n = 3 then fmB s else s.toList.isEmpty
set_option maxRecDepth 100000 in
set_option maxHeartbeats 1000000 in
theorem named_call (w:World) (n:Nat) (s:ByteArray) (hn:n < 256) (hs:s.size <= maxLen):Calls Tryd.prog 85 #[.int .u8 (n:Int),.string s] w (RetW w (namedB n s)):=by
 have hp:=predicate_any w s hs
 have hv:=variable_any w s hs
 have hf:=formMeta_any w s hs
 unfold namedB
 obtain ⟨b1,h1⟩:∃ b,b = checkB capB alnumB s:=⟨_,rfl⟩
 obtain ⟨b2,h2⟩:∃ b,b = checkB varB digitB s:=⟨_,rfl⟩
 obtain ⟨b3,h3⟩:∃ b,b = fmB s:=⟨_,rfl⟩
 rw [<- h1] at hp ⊢
 rw [<- h2] at hv ⊢
 rw [<- h3] at hf ⊢
 clear h1 h2 h3
 unfold RetW at hp hv hf
 have HP:=hid hp
 have HV:=hid hv
 have HF:=hid hf
 clear hp hv hf
 by_cases e1:n = 1
 ·subst e1
  rw [if_pos rfl]
  go_enter Tryd.func85,Tryd.ntmps85
  go_wp2_with (go_at_call 43; ((with_reducible refine HP.out.mono ?_); rintro e w1 ⟨rfl,hB⟩))
  go_ret
  exact ⟨rfl,hB⟩
 ·rw [if_neg e1]
  have d1:((n:Int) == 1) = false:=by simp; omega
  have d1':¬ (n:Int) = 1:=by omega
  clear e1
  by_cases e2:n = 2
  ·subst e2
   rw [if_pos rfl]
   go_enter Tryd.func85,Tryd.ntmps85
   go_wp2_with (go_at_call 88; ((with_reducible refine HV.out.mono ?_); rintro e w1 ⟨rfl,hB⟩))
   go_ret
   exact ⟨rfl,hB⟩
  ·rw [if_neg e2]
   have d2:((n:Int) == 2) = false:=by simp; omega
   have d2':¬ (n:Int) = 2:=by omega
   clear e2
   by_cases e3:n = 3
   ·subst e3
    rw [if_pos rfl]
    go_enter Tryd.func85,Tryd.ntmps85
    go_wp2_with (go_at_call 89; ((with_reducible refine HF.out.mono ?_); rintro e w1 ⟨rfl,hB⟩))
    go_ret
    exact ⟨rfl,hB⟩
   ·rw [if_neg e3]
    have d3:((n:Int) == 3) = false:=by simp; omega
    have d3':¬ (n:Int) = 3:=by omega
    clear e3
    go_enter Tryd.func85,Tryd.ntmps85
    go_wp2
    go_ret
    exact ⟨rfl,Below.refl _ _⟩
def rR (op:Nat):Bool:=decide (1 <= op) && decide (op <= 14)
def rS (op:Nat):Bool:=decide (1 <= op) && decide (op <= 16)
def rN (op:Nat):Nat:=if op = 1 then 1 else if op = 8 ∨ op = 9 then 2 else if op = 15 ∨ op = 16 then 3 else 0
def rA (op:Nat):Nat:=if op = 1 then 4 else if op = 16 then 2 else 0
def rB (op:Nat):Nat:=if op = 3 ∨ (8 <= op /\ op <= 13) then 1 else if (4 <= op /\ op <= 7) ∨ op = 14 then 2 else 0
def IsRows (W:World):Prop:=∀ i < 17,W.cell? ⟨0,i * 5,none⟩ = some (.bool (rR i)) /\ W.cell? ⟨0,i * 5 + 1,none⟩ = some (.bool (rS i)) /\ W.cell? ⟨0,i * 5 + 2,none⟩ = some (.int .u8 (rN i:Int)) /\ W.cell? ⟨0,i * 5 + 3,none⟩ = some (.int .i64 (rA i:Int)) /\ W.cell? ⟨0,i * 5 + 4,none⟩ = some (.int .i64 (rB i:Int))
theorem IsRows.turn {W W':World} (h:IsRows W) (hb:W'.heap[0]? = W.heap[0]?):IsRows W':=fun i hi => by
 obtain ⟨a,b,c,d,e⟩:=h i hi
 exact ⟨(World.cell?_of_block (a:=⟨0,_,none⟩) hb).trans a,(World.cell?_of_block (a:=⟨0,_,none⟩) hb).trans b,(World.cell?_of_block (a:=⟨0,_,none⟩) hb).trans c,(World.cell?_of_block (a:=⟨0,_,none⟩) hb).trans d,(World.cell?_of_block (a:=⟨0,_,none⟩) hb).trans e⟩
theorem IsRows.pos {W:World} (h:IsRows W):0 < W.heap.size:=World.block_lt_of_cell? W ⟨0,_,none⟩ (h 0 (by omega)).1
mutual
def goodF (D d:Nat):Fm -> Bool
 | .mk op nm args subs => decide (d <= D) && rR op && namedB (rN op) nm && decide (args.length <= rA op) && decide (subs.length = rB op) && goodTs D (d + 1) args && goodFs D (d + 1) subs
def goodFs (D d:Nat):List Fm -> Bool
 | [] => true
 | f :: r => goodF D d f && goodFs D d r
end
def FormOk (f:Fm):Prop:=∀ (w:World) (B n0:Nat) (l:Int) (D d:Nat) (av sv:SL),JB w B l D -> IsRows w -> B ≠ 0 -> 0 <= l /\ l <= 1000000 -> d + nodesF f <= 1000000 -> n0 <= w.heap.size -> IsTs (SJ B n0) w av f.args -> IsFs (SJ B n0) w sv f.subs -> f.op < 256 -> f.name.size <= maxLen ->
 Calls Tryd.prog 76 #[.pointer (some ⟨B,0,none⟩),.agg #[.int .u8 (f.op:Int),.string f.name,av.v,sv.v],.int .i64 (d:Int)] w (RetJ w B l D (nodesF f) (goodF D d f && decide ((nodesF f:Int) <= l)))
theorem goodFs_append (D d:Nat):∀ a b:List Fm,goodFs D d (a ++ b) = (goodFs D d a && goodFs D d b)
 | [],b => by simp [goodFs]
 | f :: a,b => by simp only [List.cons_append,goodFs,goodFs_append D d a b,Bool.and_assoc]
theorem fs_at {S:Nat -> Prop} {W:World} {g o n c k:Nat} {fs:List Fm} {f:Fm} (h:IsFs S W ⟨some ⟨g,o,none⟩,n,c⟩ fs) (ht:fs[k]? = some f):∃ a s:SL,W.cell? ⟨g,o + k * 4,none⟩ = some (.int .u8 (f.op:Int)) /\ W.cell? ⟨g,o + k * 4 + 1,none⟩ = some (.string f.name) /\ W.cell? ⟨g,o + k * 4 + 2,none⟩ = some a.v /\ W.cell? ⟨g,o + k * 4 + 3,none⟩ = some s.v /\ IsTs S W a f.args /\ IsFs S W s f.subs /\ f.op < 256 /\ f.name.size <= maxLen:=by
 cases h with
 | nil a c => simp at ht
 | row g o c fs av sv hg hc ha hs hz => exact ⟨av k,sv k,hc k f ht 0 _ rfl,hc k f ht 1 _ rfl,hc k f ht 2 _ rfl,hc k f ht 3 _ rfl,ha k f ht,hs k f ht,hz f (List.mem_of_getElem? ht)⟩
theorem IsFs.pos {S:Nat -> Prop} {W:World} {a:Option Addr} {n c:Nat} {fs:List Fm} (h:IsFs S W ⟨a,n,c⟩ fs) (hn:0 < n):∃ g o,a = some ⟨g,o,none⟩:=by
 cases h with
 | nil a c => omega
 | row g o c fs av sv hg hc ha hs hz => exact ⟨g,o,rfl⟩
set_option maxRecDepth 100000 in
set_option maxHeartbeats 2000000 in
theorem form_of (op:Nat) (nm:ByteArray) (args:List Tm) (subs:List Fm) (IH:∀ f ∈ subs,FormOk f):FormOk (.mk op nm args subs):=by
 intro w B n0 l D d av sv hJ hrw hB0 hl hd hn0 hT hS hop hz
 obtain ⟨aa,an,ac⟩:=av
 obtain ⟨sa,sn,sc⟩:=sv
 simp only [FR.Fm.op,FR.Fm.name,FR.Fm.args,FR.Fm.subs,SL.v] at hT hS hop hz ⊢
 have HAN:Hid (an = args.length):=hid hT.len
 have HSN:Hid (sn = subs.length):=hid hS.len
 obtain ⟨N,hN⟩:∃ N,N = nodesF (.mk op nm args subs):=⟨_,rfl⟩
 have HN1:Hid (N = 1 + nodesTs args + nodesL subs):=hid (by rw [hN]; unfold nodesF; rfl)
 obtain ⟨R,hR⟩:∃ R,R = (goodF D d (.mk op nm args subs) && decide ((N:Int) <= l)):=⟨_,rfl⟩
 rw [<- hN,<- hR]
 rw [<- hN] at hd
 have HR:Hid (R = (decide (d <= D) && rR op && namedB (rN op) nm && decide (args.length <= rA op) && decide (subs.length = rB op) && goodTs D (d + 1) args && goodFs D (d + 1) subs && decide ((N:Int) <= l))):=hid (by rw [hR]; unfold goodF; rfl)
 clear hN hR
 have hnd:=fun (o:Obj) => node_call (w.alloc o) B l D d (HK.blk_alloc hJ o) hl (by omega)
 obtain ⟨nb,hnb⟩:∃ nb,nb = (decide (1 <= l) && decide (d <= D)):=⟨_,rfl⟩
 rw [<- hnb] at hnd
 have HND:=hid hnd
 have HNB:=hid hnb
 clear hnd hnb
 have HBX:Hid (∀ (o:Obj) (W:World),FJ B (w.alloc o) W -> W.heap[w.heap.size]? = some o):=hid fun o W h => HK.Frm.heap h (HK.blk_new w o) (by have:=HK.blk_lt hJ; omega)
 have HF0:Hid (∀ o,FJ B w (w.alloc o)):=hid fun o => (HK.Frm.refl _ w).alloc _
 have HT:=hid hT
 have HS:=hid hS
 have HN0:=hid hn0
 have HZ:=hid hz
 have HD:=hid hd
 have HL:=hid hl
 have HRW:=hid hrw
 have HB0:=hid hB0
 have HIH:=hid IH
 clear hT hS hn0 hJ hz hd hl hrw hB0 IH
 cases nb
 ·have hfin:Hid (R = false):=hid (by
   rw [HR.out]
   have hnb:=HNB.out
   have hN1:=HN1.out
   rcases e1:decide (d <= D) with _ | _
   ·rfl
   ·have:¬ 1 <= l:=by intro h; rw [e1,decide_eq_true h] at hnb; cases hnb
    rw [decide_eq_false (show ¬ (N:Int) <= l by omega)]; simp)
  go_enter Tryd.func76,Tryd.ntmps76
  go_wp2_with (go_at_call 84; ((with_reducible refine (HND.out _).mono ?_); rintro e w1 ⟨rfl,_,hF1⟩))
  go_ret
  exact ⟨by rw [hfin.out]; rfl,(HF0.out _).trans hF1,fun h => by rw [hfin.out] at h; cases h⟩
 ·have h12:Hid (1 <= l /\ d <= D):=hid (by simpa using HNB.out.symm)
  by_cases h17:op < 17
  ·have o1:(op:Int) < 17:=by omega
   have o2:¬ (17:Int) <= (op:Int):=by omega
   go_enter Tryd.func76,Tryd.ntmps76
   go_upto_region 3 with (go_at_call 84; ((with_reducible refine (HND.out _).mono ?_); rintro e w1 ⟨rfl,hJ1,hF1⟩; have c0:=HK.blk_cell (HBX.out _ _ hF1) 0))
   have hb:=HBX.out _ _ hF1
   have HJ1:=hid hJ1
   have HF1:=hid ((HF0.out _).trans hF1)
   have hrw1:IsRows w1:=HRW.out.turn ((HF0.out _).trans hF1 |>.block 0 HRW.out.pos (Ne.symm HB0.out))
   obtain ⟨q0,q1,q2,q3,q4⟩:=hrw1 op h17
   have c0:=HK.blk_cell hb 0
   have c1:=HK.blk_cell hb 1
   have cj:=HK.blk_cell hJ1 0
   have HB1:=hid hb
   clear hJ1 hF1 hb hrw1
   obtain ⟨r,hr⟩:∃ r,r = rR op:=⟨_,rfl⟩
   obtain ⟨rs,hrs⟩:∃ r,r = rS op:=⟨_,rfl⟩
   obtain ⟨kn,hkn⟩:∃ r,r = rN op:=⟨_,rfl⟩
   obtain ⟨ka,hka⟩:∃ r,r = rA op:=⟨_,rfl⟩
   obtain ⟨kb,hkb⟩:∃ r,r = rB op:=⟨_,rfl⟩
   have hka4:ka <= 4:=by rw [hka]; unfold rA; split <;> (try split) <;> omega
   have hkb2:kb <= 2:=by rw [hkb]; unfold rB; split <;> (try split) <;> omega
   have hkn3:kn < 256:=by rw [hkn]; unfold rN; split <;> (try split) <;> (try split) <;> omega
   rw [<- hr] at q0
   rw [<- hrs] at q1
   rw [<- hkn] at q2
   rw [<- hka] at q3
   rw [<- hkb] at q4
   have HR1:Hid (R = (r && namedB kn nm && decide (args.length <= ka) && decide (subs.length = kb) && goodTs D (d + 1) args && goodFs D (d + 1) subs && decide ((N:Int) <= l))):=hid (by rw [HR.out,decide_eq_true h12.out.2,Bool.true_and,<- hr,<- hkn,<- hka,<- hkb])
   have HRO:=hid hr
   clear hr hrs hkn hka hkb
   have hbo:=HK.blk_alloc HB1.out (Obj.cells #[.bool r,.bool rs,.int .u8 (kn:Int),.int .i64 (ka:Int),.int .i64 (kb:Int)] 119)
   have e1:=HK.blk_cell hbo 1
   have e2:=HK.blk_cell hbo 2
   have e3:=HK.blk_cell hbo 3
   have ej:=HK.blk_cell (HK.blk_alloc HJ1.out (Obj.cells #[.bool r,.bool rs,.int .u8 (kn:Int),.int .i64 (ka:Int),.int .i64 (kb:Int)] 119)) 0
   clear hbo
   cases r
   ·have hres:Hid (R = false):=hid (by rw [HR1.out]; simp)
    go_wp2_with (fail)
    go_ret
    exact ⟨by rw [hres.out]; rfl,HF1.out.trans ((HK.Frm.refl _ w1).alloc _),fun h => by rw [hres.out] at h; cases h⟩
   ·have ho16:¬ (op:Int) = 16:=by
     have:=HRO.out
     unfold rR at this
     simp at this
     omega
    have ho16':((op:Int) == 16) = false:=by simp; omega
    clear HRO
    have hnm:=fun W => named_call W kn nm hkn3 HZ.out
    obtain ⟨vb,hvb⟩:∃ vb,vb = namedB kn nm:=⟨_,rfl⟩
    rw [<- hvb] at hnm
    unfold RetW at hnm
    have HNM:=hid hnm
    have HVB:=hid hvb
    have HRX:Hid (∀ (o:Obj) (W:World),Below (w1.alloc o).heap.size (w1.alloc o) W -> W.heap[w1.heap.size]? = some o):=hid fun o W h => (h.block _ (by simp)).trans (HK.blk_new w1 o)
    have HBY:Hid (∀ (o:Obj) (W:World),Below (w1.alloc o).heap.size (w1.alloc o) W -> W.heap[w.heap.size]? = some (Obj.cells #[Value.int IntKind.u8 ↑op,Value.string nm,Value.slice aa an ac,Value.slice sa sn sc] 35)):=hid fun o W h => (h.block _ (by have:=HK.blk_lt HB1.out; simp; omega)).trans (HK.blk_alloc HB1.out o)
    clear hnm hvb
    cases vb
    ·have hres:Hid (R = false):=hid (by rw [HR1.out,<- HVB.out]; simp)
     go_wp2_with (go_at_call 85; ((with_reducible refine (HNM.out _).mono ?_); rintro e w2 ⟨rfl,hB2⟩; have r3:=HK.blk_cell (HRX.out _ _ hB2) 3))
     go_ret
     exact ⟨by rw [hres.out]; rfl,HF1.out.trans (((HK.Frm.refl _ w1).alloc _).trans (frm_below hB2)),fun h => by rw [hres.out] at h; cases h⟩
    ·by_cases hal:an <= ka
     ·have a1:¬ (ka:Int) < (an:Int):=by omega
      by_cases hsl:sn = kb
      ·subst hsl
       have HR2:Hid (R = (goodTs D (d + 1) args && goodFs D (d + 1) subs && decide ((N:Int) <= l))):=hid (by
        rw [HR1.out,<- HVB.out,decide_eq_true (show args.length <= ka by rw [<- HAN.out]; exact hal),decide_eq_true (show subs.length = sn from HSN.out.symm)]; simp)
       clear hal
       go_upto_region 8 with (go_at_call 85; ((with_reducible refine (HNM.out _).mono ?_); rintro e w2 ⟨rfl,hB2⟩; have r3:=HK.blk_cell (HRX.out _ _ hB2) 3; have r4:=HK.blk_cell (HRX.out _ _ hB2) 4; have d2:=HK.blk_cell (HBY.out _ _ hB2) 2; have d3:=HK.blk_cell (HBY.out _ _ hB2) 3))
       have HF2:Hid (FJ B w w2):=hid (HF1.out.trans (((HK.Frm.refl _ w1).alloc _).trans (frm_below hB2)))
       have HJ2:Hid (JB w2 B (l - 1) D):=hid (JB.below (HK.blk_alloc HJ1.out _) hB2)
       have hb2:=HBY.out _ _ hB2
       have f0:=HK.blk_cell hb2 0
       have f2:=HK.blk_cell hb2 2
       have HB2:=hid hb2
       have hih:=terms_ok args w2 B n0 (l - 1) D (d + 1) ⟨aa,an,ac⟩ HJ2.out (by have:=HL.out; have:=h12.out; omega) (by have:=HD.out; have:=HN1.out; omega) (Nat.le_trans HN0.out HF2.out.size) (HT.out.turn (fj_turn HF2.out HN0.out))
       obtain ⟨ok,hok⟩:∃ ok,ok = (goodTs D (d + 1) args && decide ((nodesTs args:Int) <= l - 1)):=⟨_,rfl⟩
       rw [<- hok] at hih
       unfold RetJ at hih
       simp only [SL.v] at hih
       have hw:wrap64 ((d:Int) + 1) = ((d + 1:Nat):Int):=by have:=HD.out; have:=HN1.out; have:=IntWalk.wrap64_in ((d:Int) + 1) (by omega); omega
       have hw':=hw
       have HW:=hid hw
       rw [<- hw] at hih
       have HTM:=hid hih
       have HOK:=hid hok
       clear hb2 hih hok hw hw' d2 d3 r3 r4 hB2 q0 q1 q2 q3 q4 c0 c1 cj e1 e2 e3 ej HNM HRX HBY
       have HBZ:Hid (∀ W,FJ B w2 W -> W.heap[w.heap.size]? = some (Obj.cells #[Value.int IntKind.u8 ↑op,Value.string nm,Value.slice aa an ac,Value.slice sa sn sc] 35)):=hid fun W h => HK.Frm.heap h HB2.out (by have:=HK.blk_lt HJ1.out; have:=HF1.out; intro e; rw [e] at HB1; have:=HB1.out.symm.trans HJ1.out; simp at this)
       cases ok
       ·have hres:Hid (R = false):=hid (by
         rw [HR2.out]
         have h:=HOK.out
         have:=HN1.out
         rcases e1:goodTs D (d + 1) args with _ | _
         ·rfl
         ·rw [e1] at h
          have h2:¬ (nodesTs args:Int) <= l - 1:=by simpa using h.symm
          rw [decide_eq_false (show ¬ (N:Int) <= l by omega)]; simp)
        go_wp2_with (go_at_call 87; ((with_reducible refine HTM.out.mono ?_); rintro e w3 ⟨rfl,hF3,_⟩))
        go_ret
        exact ⟨by rw [hres.out]; rfl,HF2.out.trans hF3,fun h => by rw [hres.out] at h; cases h⟩
       ·have hgt:goodTs D (d + 1) args = true /\ (nodesTs args:Int) <= l - 1:=by simpa using HOK.out.symm
        obtain ⟨l1,hl1⟩:∃ l1,l1 = l - 1 - (nodesTs args:Int):=⟨_,rfl⟩
        have HR3:Hid (R = (goodFs D (d + 1) subs && decide ((nodesL subs:Int) <= l1))):=hid (by
         rw [HR2.out,hgt.1]
         have:=HN1.out
         have:decide ((N:Int) <= l) = decide ((nodesL subs:Int) <= l1):=by
          by_cases h:(nodesL subs:Int) <= l1
          ·rw [decide_eq_true h,decide_eq_true (by omega)]
          ·rw [decide_eq_false h,decide_eq_false (by omega)]
         rw [this]; simp)
        have HL1:=hid (show 0 <= l1 /\ l1 <= 1000000 by have:=HL.out; omega)
        have HL1E:=hid hl1
        clear hgt hl1
        go_upto_region 12 with (go_at_call 87; ((with_reducible refine HTM.out.mono ?_); rintro e w3 ⟨rfl,hF3,hJ3⟩))
        have HJ3:Hid (JB w3 B l1 D):=hid (by rw [HL1E.out]; exact hJ3 trivial)
        have g3:=HK.blk_cell (HBZ.out _ hF3) 3
        have HF3:=hid (HF2.out.trans hF3)
        clear hJ3 hF3 f0 f2
        have HLN:Hid (sn <= 1000000):=hid (by
         have:=nodesL_len subs
         have:=HSN.out
         have:=HN1.out
         have:=HD.out
         omega)
        have hsn6:=HLN.out
        go_wp2_with (fail)
        go_loopw [79] (fun i wr => ∃ k:Nat,k <= sn /\ i = .int .i64 k /\ FJ B w wr /\ JB wr B (l1 - nodesL (subs.take k)) D /\ goodFs D (d + 1) (subs.take k) = true /\ (nodesL (subs.take k):Int) <= l1) (fun i _ => sn - (intOf i).toNat)
        case atStart => exact ⟨0,by omega,rfl,HF3.out,by simp [nodesL]; exact HJ3.out,rfl,by simp [nodesL]; exact HL1.out.1⟩
        case round =>
         obtain ⟨k,hk,rfl,hF,hJk,hgk,hlk⟩:=hrel
         by_cases hkn:(k:Int) < (sn:Int)
         ·have b0:(0:Int) <= (k:Int):=by omega
          obtain ⟨t,ht⟩:∃ t,subs[k]? = some t:=⟨_,List.getElem?_eq_getElem (by rw [<- HSN.out]; omega)⟩
          obtain ⟨g,o,rfl⟩:=HS.out.pos (show 0 < sn by omega)
          obtain ⟨a,s,c0,c1,c2,c3,hta,hts,hto,hz⟩:=fs_at (HS.out.turn (fj_turn hF HN0.out)) ht
          have hsp:=split_at ht
          have hNs:nodesL subs = nodesL (subs.take k) + (nodesF t + nodesL (subs.drop (k + 1))):=by conv => lhs; rw [hsp]; rw [nodesL_append,nodesL_append]; simp [nodesL]
          have hGs:goodFs D (d + 1) subs = (goodFs D (d + 1) (subs.take k) && (goodF D (d + 1) t && goodFs D (d + 1) (subs.drop (k + 1)))):=by conv => lhs; rw [hsp]; rw [goodFs_append,goodFs_append]; simp [goodFs]
          have hN1:nodesL (subs.take (k + 1)) = nodesL (subs.take k) + nodesF t:=by rw [take_one ht,nodesL_append]; simp [nodesL]
          have hG1:goodFs D (d + 1) (subs.take (k + 1)) = (goodFs D (d + 1) (subs.take k) && goodF D (d + 1) t):=by rw [take_one ht,goodFs_append]; simp [goodFs]
          obtain ⟨m,hm⟩:∃ m,m = nodesL (subs.take k):=⟨_,rfl⟩
          rw [<- hm] at hJk hlk hNs hN1
          rw [hgk,Bool.true_and] at hGs hG1
          have hih:=fun (o:Obj) => HIH.out t (List.mem_of_getElem? ht) (wr.alloc o) B n0 (l1 - m) D (d + 1) a s (HK.blk_alloc hJk o) (HRW.out.turn ((hF.trans ((HK.Frm.refl _ wr).alloc o)).block 0 HRW.out.pos (Ne.symm HB0.out))) HB0.out (by have:=HL1.out; omega) (by have:=HD.out; have:=HN1.out; omega) (Nat.le_trans HN0.out (Nat.le_trans hF.size (by simp))) (hta.turn fun j hj => ⟨hj,Below.heap_alloc _ _ _ (Nat.lt_of_lt_of_le hj.2 (Nat.le_trans HN0.out hF.size))⟩) (hts.turn fun j hj => ⟨hj,Below.heap_alloc _ _ _ (Nat.lt_of_lt_of_le hj.2 (Nat.le_trans HN0.out hF.size))⟩) hto hz
          obtain ⟨ok,hok⟩:∃ ok,ok = (goodF D (d + 1) t && decide ((nodesF t:Int) <= l1 - m)):=⟨_,rfl⟩
          rw [<- hok] at hih
          unfold RetJ at hih
          obtain ⟨nt,hnt⟩:∃ nt,nt = nodesF t:=⟨_,rfl⟩
          rw [<- hnt] at hih hok hNs hN1
          obtain ⟨gt,hgt⟩:∃ gt,gt = goodF D (d + 1) t:=⟨_,rfl⟩
          rw [<- hgt] at hok hGs hG1
          clear hnt hgt hsp
          obtain ⟨top,tname,targs,tsubs⟩:=t
          obtain ⟨ta,tn,tc⟩:=a
          obtain ⟨ua,un,uc⟩:=s
          simp only [FR.Fm.op,FR.Fm.name,SL.v] at c0 c1 c2 c3 hih
          rw [<- HW.out] at hih
          have HIHC:=hid hih
          have HF:=hid hF
          have HM:=hid hm
          have HOK:=hid hok
          have HNS:=hid hNs
          have HGS:=hid hGs
          have HN1:=hid hN1
          have HG1:=hid hG1
          have HLK:=hid hlk
          clear hih hF hm hok hNs hGs hN1 hG1 hlk hta hts hto hz hJk hgk ht
          cases ok
          ·have hfin:Hid (R = false):=hid (by
            rw [HR3.out,HGS.out,HNS.out]
            have h:=HOK.out
            rcases gt with _ | _
            ·rfl
            ·have h2:¬ (nt:Int) <= l1 - m:=by simpa using h.symm
             rw [decide_eq_false (by omega)]; simp)
           go_wp2_with (go_at_call 76; ((with_reducible refine (HIHC.out _).mono ?_); rintro e w4 ⟨rfl,hF1,_⟩))
           go_ret
           exact ⟨by rw [hfin.out]; rfl,HF.out.trans (((HK.Frm.refl _ wr).alloc _).trans hF1),fun h => by rw [hfin.out] at h; cases h⟩
          ·go_wp2_with (go_at_call 76; ((with_reducible refine (HIHC.out _).mono ?_); rintro e w4 ⟨rfl,hF1,hJ1⟩))
           have HJ1:=hid hJ1
           clear hJ1
           go_roundw
           case rel =>
            have h2:gt = true /\ (nt:Int) <= l1 - m:=by simpa using HOK.out.symm
            have h3:=HJ1.out trivial
            refine ⟨k + 1,by omega,by go_num,HF.out.trans (((HK.Frm.refl _ wr).alloc _).trans hF1),?_,by rw [HG1.out]; exact h2.1,by rw [HN1.out]; omega⟩
            rw [HN1.out]
            rw [show l1 - ((m + nt:Nat):Int) = l1 - m - nt by omega]
            exact h3
           case measure => simp [intOf]; omega
         ·obtain rfl:k = sn:=by omega
          have htk:subs.take k = subs:=List.take_of_length_le (by rw [HSN.out]; exact Nat.le_refl _)
          rw [htk] at hJk hgk hlk
          have HJK:=hid hJk
          have HF:=hid hF
          have HE:=hid (show R = true by rw [HR3.out,hgk,decide_eq_true hlk]; rfl)
          clear hJk hgk hF htk hlk
          go_wp2_with (fail)
          go_ret
          exact ⟨by rw [HE.out]; rfl,HF.out,fun _ => by
           have:=HJK.out
           rw [HL1E.out] at this
           rw [HN1.out,show l - ((1 + nodesTs args + nodesL subs:Nat):Int) = l - 1 - (nodesTs args:Int) - (nodesL subs:Int) by omega]
           exact this⟩
      ·have a2:((sn:Int) != (kb:Int)) = true:=by simp; omega
       have a2':¬ (sn:Int) = (kb:Int):=by omega
       have hres:Hid (R = false):=hid (by rw [HR1.out,decide_eq_false (show ¬ subs.length = kb by rw [<- HSN.out]; exact hsl)]; simp)
       clear hsl
       go_wp2_with (go_at_call 85; ((with_reducible refine (HNM.out _).mono ?_); rintro e w2 ⟨rfl,hB2⟩; have r3:=HK.blk_cell (HRX.out _ _ hB2) 3; have r4:=HK.blk_cell (HRX.out _ _ hB2) 4; have d2:=HK.blk_cell (HBY.out _ _ hB2) 2; have d3:=HK.blk_cell (HBY.out _ _ hB2) 3))
       go_ret
       exact ⟨by rw [hres.out]; rfl,HF1.out.trans (((HK.Frm.refl _ w1).alloc _).trans (frm_below hB2)),fun h => by rw [hres.out] at h; cases h⟩
     ·have a1:(ka:Int) < (an:Int):=by omega
      have hres:Hid (R = false):=hid (by rw [HR1.out,decide_eq_false (show ¬ args.length <= ka by rw [<- HAN.out]; exact hal)]; simp)
      clear hal
      go_wp2_with (go_at_call 85; ((with_reducible refine (HNM.out _).mono ?_); rintro e w2 ⟨rfl,hB2⟩; have r3:=HK.blk_cell (HRX.out _ _ hB2) 3; have r4:=HK.blk_cell (HRX.out _ _ hB2) 4; have d2:=HK.blk_cell (HBY.out _ _ hB2) 2; have d3:=HK.blk_cell (HBY.out _ _ hB2) 3))
      go_ret
      exact ⟨by rw [hres.out]; rfl,HF1.out.trans (((HK.Frm.refl _ w1).alloc _).trans (frm_below hB2)),fun h => by rw [hres.out] at h; cases h⟩
  ·have o1:¬ (op:Int) < 17:=by omega
   have o2:(17:Int) <= (op:Int):=by omega
   have hres:Hid (R = false):=hid (by
    have:rR op = false:=by unfold rR; simp; omega
    rw [HR.out,this]; simp)
   clear h17
   go_enter Tryd.func76,Tryd.ntmps76
   go_wp2_with (go_at_call 84; ((with_reducible refine (HND.out _).mono ?_); rintro e w1 ⟨rfl,hJ1,hF1⟩; have c0:=HK.blk_cell (HBX.out _ _ hF1) 0))
   go_ret
   exact ⟨by rw [hres.out]; rfl,(HF0.out _).trans hF1,fun h => by rw [hres.out] at h; cases h⟩
mutual
theorem form_ok:∀ f:Fm,FormOk f
 | .mk op nm args subs => form_of op nm args subs (forms_all subs)
theorem forms_all:∀ (l:List Fm),∀ f ∈ l,FormOk f
 | [],f,h => by cases h
 | u :: r,f,h => by
  rcases List.mem_cons.1 h with h | h
  ·rw [h]; exact form_ok u
  ·exact forms_all r f h
end
end Go.Proofs.YtflmllablfjfeaaDoor
