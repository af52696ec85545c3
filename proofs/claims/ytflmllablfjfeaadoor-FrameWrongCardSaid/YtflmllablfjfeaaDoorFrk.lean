import Derived.Test.YtflmllablfjfeaaDoorFrj
namespace Go.Proofs.YtflmllablfjfeaaDoor
open Go.RowKit Go.HK Go.FR Lib
set_option linter.unusedVariables false
set_option linter.unusedSimpArgs false
set_option linter.unusedSectionVars false
structure SL where
 a:Option Addr
 n:Nat
 c:Nat
def SL.v (s:SL):Value:=.slice s.a s.n s.c
def _root_.Go.FR.Tm.var:Tm -> Bool | .mk v _ _ => v
def _root_.Go.FR.Tm.name:Tm -> ByteArray | .mk _ n _ => n
def _root_.Go.FR.Tm.args:Tm -> List Tm | .mk _ _ a => a
def _root_.Go.FR.Fm.op:Fm -> Nat | .mk o _ _ _ => o
def _root_.Go.FR.Fm.name:Fm -> ByteArray | .mk _ n _ _ => n
def _root_.Go.FR.Fm.args:Fm -> List Tm | .mk _ _ a _ => a
def _root_.Go.FR.Fm.subs:Fm -> List Fm | .mk _ _ _ s => s
def tmV (t:Tm) (s:SL):List Value:=[.bool t.var,.string t.name,s.v]
def fmV (f:Fm) (a s:SL):List Value:=[.int .u8 (f.op:Int),.string f.name,a.v,s.v]
inductive IsTs (S:Nat -> Prop) (W:World):SL -> List Tm -> Prop
 | nil (a:Option Addr) (c:Nat):IsTs S W ⟨a,0,c⟩ []
 | row (g o c:Nat) (ts:List Tm) (sv:Nat -> SL) (hg:S g) (hc:∀ (i:Nat) t,ts[i]? = some t -> ∀ (j:Nat) v,(tmV t (sv i))[j]? = some v -> W.cell? ⟨g,o + i * 3 + j,none⟩ = some v)
   (hs:∀ (i:Nat) t,ts[i]? = some t -> IsTs S W (sv i) t.args) (hz:∀ t ∈ ts,t.name.size <= maxLen):IsTs S W ⟨some ⟨g,o,none⟩,ts.length,c⟩ ts
theorem IsTs.turn {S T:Nat -> Prop} {W W':World} {s:SL} {ts:List Tm} (h:IsTs S W s ts) (hb:∀ k,S k -> T k /\ W'.heap[k]? = W.heap[k]?):IsTs T W' s ts:=by
 induction h with
 | nil a c => exact .nil a c
 | row g o c ts sv hg hc hs hz ih => exact .row g o c ts sv (hb g hg).1 (fun i t ht j v hv => (World.cell?_of_block (hb g hg).2).trans (hc i t ht j v hv)) ih hz
theorem IsTs.len {S:Nat -> Prop} {W:World} {s:SL} {ts:List Tm} (h:IsTs S W s ts):s.n = ts.length:=by cases h <;> rfl
inductive IsFs (S:Nat -> Prop) (W:World):SL -> List Fm -> Prop
 | nil (a:Option Addr) (c:Nat):IsFs S W ⟨a,0,c⟩ []
 | row (g o c:Nat) (fs:List Fm) (av sv:Nat -> SL) (hg:S g) (hc:∀ (i:Nat) f,fs[i]? = some f -> ∀ (j:Nat) v,(fmV f (av i) (sv i))[j]? = some v -> W.cell? ⟨g,o + i * 4 + j,none⟩ = some v)
   (ha:∀ (i:Nat) f,fs[i]? = some f -> IsTs S W (av i) f.args) (hs:∀ (i:Nat) f,fs[i]? = some f -> IsFs S W (sv i) f.subs) (hz:∀ f ∈ fs,f.op < 256 /\ f.name.size <= maxLen):IsFs S W ⟨some ⟨g,o,none⟩,fs.length,c⟩ fs
theorem IsFs.turn {S T:Nat -> Prop} {W W':World} {s:SL} {fs:List Fm} (h:IsFs S W s fs) (hb:∀ k,S k -> T k /\ W'.heap[k]? = W.heap[k]?):IsFs T W' s fs:=by
 induction h with
 | nil a c => exact .nil a c
 | row g o c fs av sv hg hc ha hs hz ih => exact .row g o c fs av sv (hb g hg).1 (fun i t ht j v hv => (World.cell?_of_block (hb g hg).2).trans (hc i t ht j v hv)) (fun i f hf => (ha i f hf).turn hb) ih hz
theorem IsFs.len {S:Nat -> Prop} {W:World} {s:SL} {fs:List Fm} (h:IsFs S W s fs):s.n = fs.length:=by cases h <;> rfl
def JB (W:World) (B:Nat) (l:Int) (D:Nat):Prop:=W.heap[B]? = some (.cells #[.bool false,.int .i64 l,.int .i64 (D:Int)] 115 (0,0))
theorem JB.set {W:World} {B:Nat} {l:Int} {D:Nat} (h:JB W B l D) (m:Int):JB (W.setCell ⟨B,1,none⟩ (.int .i64 m)) B m D:=by
 have:=HK.blk_set h 1 (.int .i64 m)
 unfold JB
 rw [this]; rfl
abbrev FJ (B:Nat) (A C:World):Prop:=HK.Frm (fun k => k = B) A C
set_option maxRecDepth 100000 in
set_option maxHeartbeats 1000000 in
theorem node_call (w:World) (B:Nat) (l:Int) (D d:Nat) (hJ:JB w B l D) (hl:0 <= l /\ l <= 1000000) (hd:d <= 1000000) :
  Calls Tryd.prog 84 #[.pointer (some ⟨B,0,none⟩),.int .i64 (d:Int)] w fun e w' => e = .returned (.bool (decide (1 <= l) && decide (d <= D))) /\ JB w' B (l - 1) D /\ FJ B w w':=by
 have c1:=HK.blk_cell hJ 1
 have c2:=HK.blk_cell hJ 2
 have ff:=HK.blk_frozen hJ 1
 have z:=HK.blk_cell (HK.blk_set hJ 1 (.int .i64 (l - 1))) 2
 have HJ:=hid hJ
 clear hJ
 have hF:FJ B w (w.setCell ⟨B,1,none⟩ (.int .i64 (l - 1))):=(HK.Frm.refl (fun k => k = B) w).setCell (p:=⟨B,1,none⟩) (.inl rfl) _
 have HF:=hid hF
 clear hF
 by_cases h1:1 <= l
 ·have b1:(0:Int) <= l - 1:=by omega
  rw [decide_eq_true h1,Bool.true_and]
  go_enter Tryd.func84,Tryd.ntmps84
  go_wp2_with (fail)
  go_ret
  exact ⟨rfl,HJ.out.set _,HF.out⟩
 ·have b1:¬ (0:Int) <= l - 1:=by omega
  rw [decide_eq_false h1,Bool.false_and]
  go_enter Tryd.func84,Tryd.ntmps84
  go_wp2_with (fail)
  go_ret
  exact ⟨rfl,HJ.out.set _,HF.out⟩
mutual
def goodT (D d:Nat):Tm -> Bool
 | .mk v nm args => decide (d <= D) && (if v = true then args.isEmpty && checkB varB digitB nm else decide (args.length <= 4) && checkB funB alnumB nm && goodTs D (d + 1) args)
def goodTs (D d:Nat):List Tm -> Bool
 | [] => true
 | t :: r => goodT D d t && goodTs D d r
end
def RetJ (w:World) (B:Nat) (l:Int) (D n:Nat) (ok:Bool) (e:Ending) (w':World):Prop:=e = .returned (.bool ok) /\ FJ B w w' /\ (ok = true -> JB w' B (l - n) D)
def SJ (B n0:Nat) (k:Nat):Prop:=k ≠ B /\ k < n0
theorem fj_turn {B n0:Nat} {A C:World} (h:FJ B A C) (hn:n0 <= A.heap.size):∀ k,SJ B n0 k -> SJ B n0 k /\ C.heap[k]? = A.heap[k]?:=fun k hk => ⟨hk,h.block k (Nat.lt_of_lt_of_le hk.2 hn) hk.1⟩
def TermOk (t:Tm):Prop:=∀ (w:World) (B n0:Nat) (l:Int) (D d:Nat) (sv:SL),JB w B l D -> 0 <= l /\ l <= 1000000 -> d + nodesT t <= 1000000 -> n0 <= w.heap.size -> IsTs (SJ B n0) w sv t.args -> t.name.size <= maxLen ->
 Calls Tryd.prog 91 #[.pointer (some ⟨B,0,none⟩),.agg #[.bool t.var,.string t.name,sv.v],.int .i64 (d:Int)] w (RetJ w B l D (nodesT t) (goodT D d t && decide ((nodesT t:Int) <= l)))
def TermsOk (ts:List Tm):Prop:=∀ (w:World) (B n0:Nat) (l:Int) (D d:Nat) (sv:SL),JB w B l D -> 0 <= l /\ l <= 1000000 -> d + nodesTs ts <= 1000000 -> n0 <= w.heap.size -> IsTs (SJ B n0) w sv ts ->
 Calls Tryd.prog 87 #[.pointer (some ⟨B,0,none⟩),sv.v,.int .i64 (d:Int)] w (RetJ w B l D (nodesTs ts) (goodTs D d ts && decide ((nodesTs ts:Int) <= l)))
theorem nodesTs_append:∀ a b:List Tm,nodesTs (a ++ b) = nodesTs a + nodesTs b
 | [],b => by simp [nodesTs]
 | f :: a,b => by simp only [List.cons_append,nodesTs,nodesTs_append a b]; omega
theorem goodTs_append (D d:Nat):∀ a b:List Tm,goodTs D d (a ++ b) = (goodTs D d a && goodTs D d b)
 | [],b => by simp [goodTs]
 | f :: a,b => by simp only [List.cons_append,goodTs,goodTs_append D d a b,Bool.and_assoc]
theorem take_one {α:Type} {ts:List α} {k:Nat} {t:α} (h:ts[k]? = some t):ts.take (k + 1) = ts.take k ++ [t]:=by
 obtain ⟨hk,rfl⟩:=List.getElem?_eq_some_iff.1 h
 rw [List.take_succ_eq_append_getElem hk]
theorem split_at {α:Type} {ts:List α} {k:Nat} {t:α} (h:ts[k]? = some t):ts = ts.take k ++ ([t] ++ ts.drop (k + 1)):=by
 obtain ⟨hk,rfl⟩:=List.getElem?_eq_some_iff.1 h
 rw [List.singleton_append,<- List.drop_eq_getElem_cons hk,List.take_append_drop]
theorem ts_at {S:Nat -> Prop} {W:World} {g o n c k:Nat} {ts:List Tm} {t:Tm} (h:IsTs S W ⟨some ⟨g,o,none⟩,n,c⟩ ts) (ht:ts[k]? = some t):∃ s:SL,W.cell? ⟨g,o + k * 3,none⟩ = some (.bool t.var) /\ W.cell? ⟨g,o + k * 3 + 1,none⟩ = some (.string t.name) /\ W.cell? ⟨g,o + k * 3 + 2,none⟩ = some s.v /\ IsTs S W s t.args /\ t.name.size <= maxLen:=by
 cases h with
 | nil a c => simp at ht
 | row g o c ts sv hg hc hs hz => exact ⟨sv k,hc k t ht 0 _ rfl,hc k t ht 1 _ rfl,hc k t ht 2 _ rfl,hs k t ht,hz t (List.mem_of_getElem? ht)⟩
set_option maxRecDepth 100000 in
set_option maxHeartbeats 2000000 in
theorem terms_of (ts:List Tm) (IH:∀ t ∈ ts,TermOk t):TermsOk ts:=by
 intro w B n0 l D d sv hJ hl hd hn0 hT
 cases hT with
 | nil a c =>
  have e1:goodTs D d [] = true:=by unfold goodTs; rfl
  have e2:nodesTs [] = 0:=by unfold nodesTs; rfl
  rw [e1,e2,decide_eq_true (show ((0:Nat):Int) <= l by omega),Bool.true_and]
  clear e1 e2
  have HJ:=hid hJ
  clear hJ
  show Calls Tryd.prog 87 #[.pointer (some ⟨B,0,none⟩),.slice a 0 c,.int .i64 (d:Int)] w _
  go_enter Tryd.func87,Tryd.ntmps87
  go_wp2_with (fail)
  go_loopw [11] (fun i wr => i = .int .i64 0 /\ wr = w) (fun i _ => 0)
  case atStart => exact ⟨rfl,rfl⟩
  case round =>
   obtain ⟨rfl,rfl⟩:=hrel
   go_wp2_with (fail)
   go_ret
   exact ⟨rfl,HK.Frm.refl _ _,fun _ => by simpa using HJ.out⟩
 | row g o c ts sv hg hc hs hz =>
  obtain ⟨n,hn⟩:∃ n,n = ts.length:=⟨_,rfl⟩
  rw [<- hn]
  show Calls Tryd.prog 87 #[.pointer (some ⟨B,0,none⟩),.slice (some ⟨g,o,none⟩) n c,.int .i64 (d:Int)] w _
  have hts:IsTs (SJ B n0) w ⟨some ⟨g,o,none⟩,ts.length,c⟩ ts:=.row g o c ts sv hg hc hs hz
  have HTS:=hid hts
  have HJ:=hid hJ
  have HN:=hid hn
  have HIH:=hid IH
  have HL:=hid hl
  have HD:=hid hd
  have HN0:=hid hn0
  have hn6:n <= 1000000:=by
   have:ts.length <= nodesTs ts:=by
    clear hc hs hz hd hn IH hts HTS HIH HN HD
    induction ts with
    | nil => simp
    | cons t r ih =>
     have:1 <= nodesT t:=by cases t; unfold nodesT; omega
     simp only [nodesTs,List.length_cons]; omega
   omega
  clear hts hJ hn IH hl hd hn0 hc hs hz hg sv
  go_enter Tryd.func87,Tryd.ntmps87
  go_wp2_with (fail)
  go_loopw [11] (fun i wr => ∃ k:Nat,k <= n /\ i = .int .i64 k /\ FJ B w wr /\ JB wr B (l - nodesTs (ts.take k)) D /\ goodTs D d (ts.take k) = true /\ (nodesTs (ts.take k):Int) <= l) (fun i _ => n - (intOf i).toNat)
  case atStart => exact ⟨0,by omega,rfl,HK.Frm.refl _ _,by simp [nodesTs]; exact HJ.out,rfl,by simp [nodesTs]; exact HL.out.1⟩
  case round =>
   obtain ⟨k,hk,rfl,hF,hJk,hgk,hlk⟩:=hrel
   by_cases hkn:(k:Int) < (n:Int)
   ·have b0:(0:Int) <= (k:Int):=by omega
    obtain ⟨t,ht⟩:∃ t,ts[k]? = some t:=⟨_,List.getElem?_eq_getElem (by rw [<- HN.out]; omega)⟩
    obtain ⟨s,c0,c1,c2,hs,hz⟩:=ts_at (HTS.out.turn (fj_turn hF HN0.out)) ht
    have hsp:=split_at ht
    have hNs:nodesTs ts = nodesTs (ts.take k) + (nodesT t + nodesTs (ts.drop (k + 1))):=by conv => lhs; rw [hsp]; rw [nodesTs_append,nodesTs_append]; simp [nodesTs]
    have hGs:goodTs D d ts = (goodTs D d (ts.take k) && (goodT D d t && goodTs D d (ts.drop (k + 1)))):=by conv => lhs; rw [hsp]; rw [goodTs_append,goodTs_append]; simp [goodTs]
    have hN1:nodesTs (ts.take (k + 1)) = nodesTs (ts.take k) + nodesT t:=by rw [take_one ht,nodesTs_append]; simp [nodesTs]
    have hG1:goodTs D d (ts.take (k + 1)) = (goodTs D d (ts.take k) && goodT D d t):=by rw [take_one ht,goodTs_append]; simp [goodTs]
    obtain ⟨m,hm⟩:∃ m,m = nodesTs (ts.take k):=⟨_,rfl⟩
    rw [<- hm] at hJk hlk hNs hN1
    rw [hgk,Bool.true_and] at hGs hG1
    have hih:=fun (o:Obj) => HIH.out t (List.mem_of_getElem? ht) (wr.alloc o) B n0 (l - m) D d s (HK.blk_alloc hJk o) (by have:=HL.out; omega) (by have:=HD.out; omega) (Nat.le_trans HN0.out (Nat.le_trans hF.size (by simp))) (hs.turn fun j hj => ⟨hj,Below.heap_alloc _ _ _ (Nat.lt_of_lt_of_le hj.2 (Nat.le_trans HN0.out hF.size))⟩) hz
    obtain ⟨ok,hok⟩:∃ ok,ok = (goodT D d t && decide ((nodesT t:Int) <= l - m)):=⟨_,rfl⟩
    rw [<- hok] at hih
    unfold RetJ at hih
    obtain ⟨nt,hnt⟩:∃ nt,nt = nodesT t:=⟨_,rfl⟩
    rw [<- hnt] at hih hok hNs hN1
    obtain ⟨gt,hgt⟩:∃ gt,gt = goodT D d t:=⟨_,rfl⟩
    rw [<- hgt] at hok hGs hG1
    clear hnt hgt hsp
    obtain ⟨var,name,args⟩:=t
    obtain ⟨sa,sn,sc⟩:=s
    simp only [FR.Tm.var,FR.Tm.name,SL.v] at c0 c1 c2 hih
    have HIHC:=hid hih
    have HF:=hid hF
    have HM:=hid hm
    have HOK:=hid hok
    have HNS:=hid hNs
    have HGS:=hid hGs
    have HN1:=hid hN1
    have HG1:=hid hG1
    have HLK:=hid hlk
    clear hih hF hm hok hNs hGs hN1 hG1 hlk hs hz hJk hgk ht
    cases ok
    ·have hfin:Hid ((goodTs D d ts && decide ((nodesTs ts:Int) <= l)) = false):=hid (by
      rw [HGS.out,HNS.out]
      have h:=HOK.out
      rcases gt with _ | _
      ·rfl
      ·have h2:¬ (nt:Int) <= l - m:=by simpa using h.symm
       rw [decide_eq_false (by omega)]; simp)
     go_wp2_with (go_at_call 91; ((with_reducible refine (HIHC.out _).mono ?_); rintro e w1 ⟨rfl,hF1,_⟩))
     go_ret
     exact ⟨by rw [hfin.out]; rfl,HF.out.trans (((HK.Frm.refl _ wr).alloc _).trans hF1),fun h => by rw [hfin.out] at h; cases h⟩
    ·go_wp2_with (go_at_call 91; ((with_reducible refine (HIHC.out _).mono ?_); rintro e w1 ⟨rfl,hF1,hJ1⟩))
     have HJ1:=hid hJ1
     clear hJ1
     go_roundw
     case rel =>
      have h2:gt = true /\ (nt:Int) <= l - m:=by simpa using HOK.out.symm
      have h3:=HJ1.out trivial
      refine ⟨k + 1,by omega,by go_num,HF.out.trans (((HK.Frm.refl _ wr).alloc _).trans hF1),?_,by rw [HG1.out]; exact h2.1,by rw [HN1.out]; omega⟩
      rw [HN1.out]
      rw [show l - ((m + nt:Nat):Int) = l - m - nt by omega]
      exact h3
     case measure => simp [intOf]; omega
   ·obtain rfl:k = n:=by omega
    have htk:ts.take k = ts:=List.take_of_length_le (by rw [HN.out]; exact Nat.le_refl _)
    rw [htk] at hJk hgk hlk
    have HJK:=hid hJk
    have HG:=hid hgk
    have HF:=hid hF
    have HE:=hid (show (goodTs D d ts && decide ((nodesTs ts:Int) <= l)) = true by rw [hgk,decide_eq_true hlk]; rfl)
    clear hJk hgk hF htk hlk
    go_wp2_with (fail)
    go_ret
    exact ⟨by rw [HE.out]; rfl,HF.out,fun _ => HJK.out⟩
theorem frm_below {B:Nat} {A C:World} (h:Below A.heap.size A C):FJ B A C:=HK.Frm.of_below h _
theorem JB.below {W W':World} {B:Nat} {l:Int} {D:Nat} (h:JB W B l D) (hb:Below W.heap.size W W'):JB W' B l D:=(hb.block B (HK.blk_lt h)).trans h
set_option maxRecDepth 100000 in
set_option maxHeartbeats 2000000 in
theorem term_var (nm:ByteArray) (args:List Tm):TermOk (.mk true nm args):=by
 intro w B n0 l D d sv hJ hl hd hn0 hT hz
 obtain ⟨sa,sn,sc⟩:=sv
 simp only [FR.Tm.var,FR.Tm.name,FR.Tm.args,SL.v] at hT hz ⊢
 have HSN:Hid (sn = args.length):=hid hT.len
 obtain ⟨N,hN⟩:∃ N,N = nodesT (.mk true nm args):=⟨_,rfl⟩
 have HN1:Hid (N = 1 + nodesTs args):=hid (by rw [hN]; unfold nodesT; rfl)
 obtain ⟨R,hR⟩:∃ R,R = (goodT D d (.mk true nm args) && decide ((N:Int) <= l)):=⟨_,rfl⟩
 rw [<- hN,<- hR]
 rw [<- hN] at hd
 have HR:Hid (R = (decide (d <= D) && (args.isEmpty && checkB varB digitB nm) && decide ((N:Int) <= l))):=hid (by rw [hR]; unfold goodT; rfl)
 clear hN hR
 have hnd:=fun (o:Obj) => node_call (w.alloc o) B l D d (HK.blk_alloc hJ o) hl (by omega)
 obtain ⟨nb,hnb⟩:∃ nb,nb = (decide (1 <= l) && decide (d <= D)):=⟨_,rfl⟩
 rw [<- hnb] at hnd
 have HND:=hid hnd
 have HNB:=hid hnb
 clear hnd hnb
 have HBX:Hid (∀ (o:Obj) (W:World),FJ B (w.alloc o) W -> W.heap[w.heap.size]? = some o):=hid fun o W h => HK.Frm.heap h (HK.blk_new w o) (by have:=HK.blk_lt hJ; omega)
 have HF0:Hid (∀ o,FJ B w (w.alloc o)):=hid fun o => (HK.Frm.refl _ w).alloc _
 have HT:=hid hT
 have HN0:=hid hn0
 have HZ:=hid hz
 have HD:=hid hd
 have HL:=hid hl
 clear hT hn0 hJ hz hd hl
 cases nb
 ·have hfin:Hid (R = false):=hid (by
   rw [HR.out]
   have hnb:=HNB.out
   have hN1:=HN1.out
   rcases e1:decide (d <= D) with _ | _
   ·rfl
   ·have:¬ 1 <= l:=by intro h; rw [e1,decide_eq_true h] at hnb; cases hnb
    rw [decide_eq_false (show ¬ (N:Int) <= l by omega)]; simp)
  go_enter Tryd.func91,Tryd.ntmps91
  go_wp2_with (go_at_call 84; ((with_reducible refine (HND.out _).mono ?_); rintro e w1 ⟨rfl,_,hF1⟩))
  go_ret
  exact ⟨by rw [hfin.out]; rfl,(HF0.out _).trans hF1,fun h => by rw [hfin.out] at h; cases h⟩
 ·have h12:Hid (1 <= l /\ d <= D):=hid (by simpa using HNB.out.symm)
  go_enter Tryd.func91,Tryd.ntmps91
  go_upto_region 3 with (go_at_call 84; ((with_reducible refine (HND.out _).mono ?_); rintro e w1 ⟨rfl,hJ1,hF1⟩))
  have hb:=HBX.out _ _ hF1
  have c0:=HK.blk_cell hb 0
  have c1:=HK.blk_cell hb 1
  have c2:=HK.blk_cell hb 2
  have HJ1:=hid hJ1
  have HF1:=hid ((HF0.out _).trans hF1)
  have HB1:=hid hb
  clear hJ1 hF1 hb
  by_cases h0:sn = 0
  ·have hvar:=fun W => variable_any W nm HZ.out
   obtain ⟨vb,hvb⟩:∃ vb,vb = checkB varB digitB nm:=⟨_,rfl⟩
   rw [<- hvb] at hvar
   unfold RetW at hvar
   have hemp:args = []:=List.length_eq_zero_iff.1 (by rw [<- HSN.out]; exact h0)
   have hN2:N = 1:=by rw [HN1.out,hemp]; unfold nodesTs; rfl
   have hres:Hid (R = vb):=hid (by rw [HR.out,hemp,<- hvb,hN2,decide_eq_true h12.out.2,decide_eq_true (show ((1:Nat):Int) <= l from h12.out.1)]; simp)
   have HVAR:=hid hvar
   have HN2:=hid hN2
   have hsi:((sn:Int) == 0) = true:=by simp; omega
   clear hvar hvb hemp hN2 h0
   cases vb
   ·go_wp2_with (go_at_call 88; ((with_reducible refine (HVAR.out _).mono ?_); rintro e w2 ⟨rfl,hB2⟩; have cj:=HK.blk_cell (HJ1.out.below hB2) 0))
    go_ret
    exact ⟨by rw [hres.out]; rfl,HF1.out.trans (frm_below hB2),fun h => by rw [hres.out] at h; cases h⟩
   ·go_wp2_with (go_at_call 88; ((with_reducible refine (HVAR.out _).mono ?_); rintro e w2 ⟨rfl,hB2⟩; have cj:=HK.blk_cell (HJ1.out.below hB2) 0))
    go_ret
    exact ⟨by rw [hres.out]; rfl,HF1.out.trans (frm_below hB2),fun _ => by rw [HN2.out]; exact HJ1.out.below hB2⟩
  ·have hres:Hid (R = false):=hid (by
    rw [HR.out]
    have:args.isEmpty = false:=by
     have h1:=HSN.out
     cases args with
     | nil => exact absurd h1 h0
     | cons _ _ => rfl
    rw [this]; simp)
   have hsi:((sn:Int) == 0) = false:=by simp; omega
   have hsj:¬ (sn:Int) = 0:=by omega
   clear h0
   go_wp2_with (fail)
   go_ret
   exact ⟨by rw [hres.out]; rfl,HF1.out,fun h => by rw [hres.out] at h; cases h⟩
set_option maxRecDepth 100000 in
set_option maxHeartbeats 2000000 in
theorem term_fun (nm:ByteArray) (args:List Tm) (IH:TermsOk args):TermOk (.mk false nm args):=by
 intro w B n0 l D d sv hJ hl hd hn0 hT hz
 obtain ⟨sa,sn,sc⟩:=sv
 simp only [FR.Tm.var,FR.Tm.name,FR.Tm.args,SL.v] at hT hz ⊢
 have HSN:Hid (sn = args.length):=hid hT.len
 obtain ⟨N,hN⟩:∃ N,N = nodesT (.mk false nm args):=⟨_,rfl⟩
 have HN1:Hid (N = 1 + nodesTs args):=hid (by rw [hN]; unfold nodesT; rfl)
 obtain ⟨R,hR⟩:∃ R,R = (goodT D d (.mk false nm args) && decide ((N:Int) <= l)):=⟨_,rfl⟩
 rw [<- hN,<- hR]
 rw [<- hN] at hd
 have HR:Hid (R = (decide (d <= D) && (decide (args.length <= 4) && checkB funB alnumB nm && goodTs D (d + 1) args) && decide ((N:Int) <= l))):=hid (by rw [hR]; unfold goodT; rfl)
 clear hN hR
 have hnd:=fun (o:Obj) => node_call (w.alloc o) B l D d (HK.blk_alloc hJ o) hl (by omega)
 obtain ⟨nb,hnb⟩:∃ nb,nb = (decide (1 <= l) && decide (d <= D)):=⟨_,rfl⟩
 rw [<- hnb] at hnd
 have HND:=hid hnd
 have HNB:=hid hnb
 clear hnd hnb
 have HBX:Hid (∀ (o:Obj) (W:World),FJ B (w.alloc o) W -> W.heap[w.heap.size]? = some o):=hid fun o W h => HK.Frm.heap h (HK.blk_new w o) (by have:=HK.blk_lt hJ; omega)
 have HF0:Hid (∀ o,FJ B w (w.alloc o)):=hid fun o => (HK.Frm.refl _ w).alloc _
 have HT:=hid hT
 have HN0:=hid hn0
 have HZ:=hid hz
 have HD:=hid hd
 have HL:=hid hl
 clear hT hn0 hJ hz hd hl
 cases nb
 ·have hfin:Hid (R = false):=hid (by
   rw [HR.out]
   have hnb:=HNB.out
   have hN1:=HN1.out
   rcases e1:decide (d <= D) with _ | _
   ·rfl
   ·have:¬ 1 <= l:=by intro h; rw [e1,decide_eq_true h] at hnb; cases hnb
    rw [decide_eq_false (show ¬ (N:Int) <= l by omega)]; simp)
  go_enter Tryd.func91,Tryd.ntmps91
  go_wp2_with (go_at_call 84; ((with_reducible refine (HND.out _).mono ?_); rintro e w1 ⟨rfl,_,hF1⟩))
  go_ret
  exact ⟨by rw [hfin.out]; rfl,(HF0.out _).trans hF1,fun h => by rw [hfin.out] at h; cases h⟩
 ·have h12:Hid (1 <= l /\ d <= D):=hid (by simpa using HNB.out.symm)
  go_enter Tryd.func91,Tryd.ntmps91
  go_upto_region 3 with (go_at_call 84; ((with_reducible refine (HND.out _).mono ?_); rintro e w1 ⟨rfl,hJ1,hF1⟩))
  have hb:=HBX.out _ _ hF1
  have c0:=HK.blk_cell hb 0
  have c1:=HK.blk_cell hb 1
  have c2:=HK.blk_cell hb 2
  have HJ1:=hid hJ1
  have HF1:=hid ((HF0.out _).trans hF1)
  have HB1:=hid hb
  clear hJ1 hF1 hb
  by_cases h4:sn <= 4
  ·have hfun:=fun W => function_any W nm HZ.out
   obtain ⟨vb,hvb⟩:∃ vb,vb = checkB funB alnumB nm:=⟨_,rfl⟩
   rw [<- hvb] at hfun
   unfold RetW at hfun
   have HVAR:=hid hfun
   have h4i:(sn:Int) <= 4:=by omega
   have HVB:=hid hvb
   clear hfun hvb
   cases vb
   ·have hres:Hid (R = false):=hid (by rw [HR.out,<- HVB.out]; simp)
    go_wp2_with (go_at_call 94; ((with_reducible refine (HVAR.out _).mono ?_); rintro e w2 ⟨rfl,hB2⟩))
    go_ret
    exact ⟨by rw [hres.out]; rfl,HF1.out.trans (frm_below hB2),fun h => by rw [hres.out] at h; cases h⟩
   ·obtain ⟨ok,hok⟩:∃ ok,ok = (goodTs D (d + 1) args && decide ((nodesTs args:Int) <= l - 1)):=⟨_,rfl⟩
    have hres:Hid (R = ok):=hid (by
     rw [HR.out,<- HVB.out,decide_eq_true h12.out.2,hok,decide_eq_true (show args.length <= 4 by rw [<- HSN.out]; exact h4)]
     have:decide ((N:Int) <= l) = decide ((nodesTs args:Int) <= l - 1):=by
      have:=HN1.out
      by_cases h:(nodesTs args:Int) <= l - 1
      ·rw [decide_eq_true h,decide_eq_true (by omega)]
      ·rw [decide_eq_false h,decide_eq_false (by omega)]
     rw [this]; simp)
    have hih:=fun (W:World) (hB:Below W.heap.size W W) (hJ:JB W B (l - 1) D) (hF:FJ B w W) => IH W B n0 (l - 1) D (d + 1) ⟨sa,sn,sc⟩ hJ (by have:=HL.out; have:=h12.out; omega) (by have:=HD.out; have:=HN1.out; omega) (Nat.le_trans HN0.out hF.size) (HT.out.turn (fj_turn hF HN0.out))
    rw [<- hok] at hih
    unfold RetJ at hih
    simp only [SL.v] at hih
    have hw:wrap64 ((d:Int) + 1) = ((d + 1:Nat):Int):=by have:=HD.out; have:=HN1.out; have:=IntWalk.wrap64_in ((d:Int) + 1) (by omega); omega
    rw [<- hw] at hih
    have HIH:=hid hih
    clear hih hok h4 hw
    go_wp2_with (first
     | (go_at_call 94; ((with_reducible refine (HVAR.out _).mono ?_); rintro e w2 ⟨rfl,hB2⟩; have c2':=HK.blk_cell ((hB2.block _ (HK.blk_lt HB1.out)).trans HB1.out) 2; have HF2:=hid (HF1.out.trans (frm_below hB2)); have HJ2:=hid (HJ1.out.below hB2); clear hB2))
     | (go_at_call 87; ((with_reducible refine (HIH.out _ (Below.refl _ _) HJ2.out HF2.out).mono ?_); rintro e w3 ⟨rfl,hF3,hJ3⟩)))
    go_ret
    exact ⟨by rw [hres.out]; rfl,HF2.out.trans hF3,fun h => by
     have h5:=hJ3 (by rw [<- hres.out]; exact h)
     rw [HN1.out,show l - ((1 + nodesTs args:Nat):Int) = l - 1 - (nodesTs args:Nat) by omega]; exact h5⟩
  ·have hres:Hid (R = false):=hid (by rw [HR.out,decide_eq_false (show ¬ args.length <= 4 by rw [<- HSN.out]; exact h4)]; simp)
   have h4i:¬ (sn:Int) <= 4:=by omega
   clear h4
   go_wp2_with (fail)
   go_ret
   exact ⟨by rw [hres.out]; rfl,HF1.out,fun h => by rw [hres.out] at h; cases h⟩
mutual
theorem term_ok:∀ t:Tm,TermOk t
 | .mk true nm args => term_var nm args
 | .mk false nm args => term_fun nm args (terms_of args (terms_all args))
theorem terms_all:∀ (l:List Tm),∀ t ∈ l,TermOk t
 | [],t,h => by cases h
 | u :: r,t,h => by
  rcases List.mem_cons.1 h with h | h
  ·rw [h]; exact term_ok u
  ·exact terms_all r t h
end
theorem terms_ok (l:List Tm):TermsOk l:=terms_of l (terms_all l)
end Go.Proofs.YtflmllablfjfeaaDoor
