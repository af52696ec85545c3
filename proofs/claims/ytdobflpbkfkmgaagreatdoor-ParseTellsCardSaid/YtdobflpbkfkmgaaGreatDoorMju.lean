import Derived.Test.YtdobflpbkfkmgaaGreatDoorTls
import Derived.Test.YtdobflpbkfkmgaaGreatDoorMpa
import Derived.Test.YtdobflpbkfkmgaaGreatDoorLexV
namespace Go.Proofs.YtdobflpbkfkmgaaGreatDoor
open Go.RowKit Go.HK Go.FR Lib
set_option linter.unusedVariables false
set_option linter.unusedSimpArgs false
set_option linter.unusedSectionVars false
structure SL where
 a:Option Addr
 n:Nat
 c:Nat
def SL.v (s:SL):Value:=.slice s.a s.n s.c
def _root_.Go.FR.Tm.var:Tm -> Bool | .mk v _ _ => v
def _root_.Go.FR.Tm.name:Tm -> ByteArray | .mk _ n _ => n
def _root_.Go.FR.Tm.args:Tm -> List Tm | .mk _ _ a => a
def _root_.Go.FR.Fm.op:Fm -> Nat | .mk o _ _ _ => o
def _root_.Go.FR.Fm.name:Fm -> ByteArray | .mk _ n _ _ => n
def _root_.Go.FR.Fm.args:Fm -> List Tm | .mk _ _ a _ => a
def _root_.Go.FR.Fm.subs:Fm -> List Fm | .mk _ _ _ s => s
def tmV (t:Tm) (s:SL):List Value:=[.bool t.var,.string t.name,s.v]
def fmV (f:Fm) (a s:SL):List Value:=[.int .u8 (f.op:Int),.string f.name,a.v,s.v]
inductive IsTs (S:Nat -> Prop) (W:World):SL -> List Tm -> Prop
 | nil (a:Option Addr) (c:Nat):IsTs S W ⟨a,0,c⟩ []
 | row (g o c:Nat) (ts:List Tm) (sv:Nat -> SL) (hg:S g) (hc:∀ (i:Nat) t,ts[i]? = some t -> ∀ (j:Nat) v,(tmV t (sv i))[j]? = some v -> W.cell? ⟨g,o + i * 3 + j,none⟩ = some v)
   (hs:∀ (i:Nat) t,ts[i]? = some t -> IsTs S W (sv i) t.args) (hz:∀ t ∈ ts,t.name.size <= maxLen):IsTs S W ⟨some ⟨g,o,none⟩,ts.length,c⟩ ts
theorem IsTs.turn {S T:Nat -> Prop} {W W':World} {s:SL} {ts:List Tm} (h:IsTs S W s ts) (hb:∀ k,S k -> T k /\ W'.heap[k]? = W.heap[k]?):IsTs T W' s ts:=by
 induction h with
 | nil a c => exact .nil a c
 | row g o c ts sv hg hc hs hz ih => exact .row g o c ts sv (hb g hg).1 (fun i t ht j v hv => (World.cell?_of_block (hb g hg).2).trans (hc i t ht j v hv)) ih hz
theorem IsTs.len {S:Nat -> Prop} {W:World} {s:SL} {ts:List Tm} (h:IsTs S W s ts):s.n = ts.length:=by cases h <;> rfl
inductive IsFs (S:Nat -> Prop) (W:World):SL -> List Fm -> Prop
 | nil (a:Option Addr) (c:Nat):IsFs S W ⟨a,0,c⟩ []
 | row (g o c:Nat) (fs:List Fm) (av sv:Nat -> SL) (hg:S g) (hc:∀ (i:Nat) f,fs[i]? = some f -> ∀ (j:Nat) v,(fmV f (av i) (sv i))[j]? = some v -> W.cell? ⟨g,o + i * 4 + j,none⟩ = some v)
   (ha:∀ (i:Nat) f,fs[i]? = some f -> IsTs S W (av i) f.args) (hs:∀ (i:Nat) f,fs[i]? = some f -> IsFs S W (sv i) f.subs) (hz:∀ f ∈ fs,f.op < 256 /\ f.name.size <= maxLen):IsFs S W ⟨some ⟨g,o,none⟩,fs.length,c⟩ fs
theorem IsFs.turn {S T:Nat -> Prop} {W W':World} {s:SL} {fs:List Fm} (h:IsFs S W s fs) (hb:∀ k,S k -> T k /\ W'.heap[k]? = W.heap[k]?):IsFs T W' s fs:=by
 induction h with
 | nil a c => exact .nil a c
 | row g o c fs av sv hg hc ha hs hz ih => exact .row g o c fs av sv (hb g hg).1 (fun i t ht j v hv => (World.cell?_of_block (hb g hg).2).trans (hc i t ht j v hv)) (fun i f hf => (ha i f hf).turn hb) ih hz
theorem IsFs.len {S:Nat -> Prop} {W:World} {s:SL} {fs:List Fm} (h:IsFs S W s fs):s.n = fs.length:=by cases h <;> rfl
structure Dp where
 n:Nat
 s:Bool
def JB (W:World) (B:Nat) (l:Int) (D:Dp):Prop:=W.heap[B]? = some (.cells #[.bool D.s,.int .i64 l,.int .i64 (D.n:Int)] 91 (0,0))
theorem JB.set {W:World} {B:Nat} {l:Int} {D:Dp} (h:JB W B l D) (m:Int):JB (W.setCell ⟨B,1,none⟩ (.int .i64 m)) B m D:=by
 have:=HK.blk_set h 1 (.int .i64 m)
 unfold JB
 rw [this]; rfl
abbrev FJ (B:Nat) (A C:World):Prop:=HK.Frm (fun k => k = B) A C
set_option maxRecDepth 100000 in
set_option maxHeartbeats 1000000 in
theorem node_call (w:World) (B:Nat) (l:Int) (D:Dp) (d:Nat) (hJ:JB w B l D) (hl:0 <= l /\ l <= 9223372036854775807) (hd:d <= 1000000) :
  Calls Tryz.prog 81 #[.pointer (some ⟨B,0,none⟩),.int .i64 (d:Int)] w fun e w' => e = .returned (.bool (decide (1 <= l) && decide (d <= D.n))) /\ JB w' B (l - 1) D /\ FJ B w w':=by
 have c1:=HK.blk_cell hJ 1
 have c2:=HK.blk_cell hJ 2
 have ff:=HK.blk_frozen hJ 1
 have z:=HK.blk_cell (HK.blk_set hJ 1 (.int .i64 (l - 1))) 2
 have HJ:=hid hJ
 clear hJ
 have hF:FJ B w (w.setCell ⟨B,1,none⟩ (.int .i64 (l - 1))):=(HK.Frm.refl (fun k => k = B) w).setCell (p:=⟨B,1,none⟩) (.inl rfl) _
 have HF:=hid hF
 clear hF
 by_cases h1:1 <= l
 ·have b1:(0:Int) <= l - 1:=by omega
  rw [decide_eq_true h1,Bool.true_and]
  go_enter Tryz.func81,Tryz.ntmps81
  go_wp2_with (fail)
  go_ret
  exact ⟨rfl,HJ.out.set _,HF.out⟩
 ·have b1:¬ (0:Int) <= l - 1:=by omega
  rw [decide_eq_false h1,Bool.false_and]
  go_enter Tryz.func81,Tryz.ntmps81
  go_wp2_with (fail)
  go_ret
  exact ⟨rfl,HJ.out.set _,HF.out⟩
mutual
def goodT (D:Dp) (d:Nat):Tm -> Bool
 | .mk v nm args => decide (d <= D.n) && (if v = true then args.isEmpty && (checkB varB digitB nm || (D.s && tmB nm)) else decide (args.length <= 4) && checkB funB alnumB nm && goodTs D (d + 1) args)
def goodTs (D:Dp) (d:Nat):List Tm -> Bool
 | [] => true
 | t :: r => goodT D d t && goodTs D d r
end
def RetJ (w:World) (B:Nat) (l:Int) (D:Dp) (n:Nat) (ok:Bool) (e:Ending) (w':World):Prop:=e = .returned (.bool ok) /\ FJ B w w' /\ (ok = true -> JB w' B (l - n) D)
def SJ (B n0:Nat) (k:Nat):Prop:=k ≠ B /\ k < n0
theorem fj_turn {B n0:Nat} {A C:World} (h:FJ B A C) (hn:n0 <= A.heap.size):∀ k,SJ B n0 k -> SJ B n0 k /\ C.heap[k]? = A.heap[k]?:=fun k hk => ⟨hk,h.block k (Nat.lt_of_lt_of_le hk.2 hn) hk.1⟩
mutual
def szT:Tm -> Prop
 | .mk _ _ args => args.length <= 9223372036854775807 /\ szTs args
def szTs:List Tm -> Prop
 | [] => True
 | t :: r => szT t /\ szTs r
end
def szA (l:List Tm):Prop:=l.length <= 9223372036854775807 /\ szTs l
mutual
def szF:Fm -> Prop
 | .mk _ _ args subs => szA args /\ subs.length <= 9223372036854775807 /\ szFs subs
def szFs:List Fm -> Prop
 | [] => True
 | f :: r => szF f /\ szFs r
end
theorem szT_args {v:Bool} {nm:ByteArray} {args:List Tm} (h:szT (.mk v nm args)):szA args:=by unfold szT at h; exact h
theorem szF_args {op:Nat} {nm:ByteArray} {args:List Tm} {subs:List Fm} (h:szF (.mk op nm args subs)):szA args:=by unfold szF at h; exact h.1
theorem szF_len {op:Nat} {nm:ByteArray} {args:List Tm} {subs:List Fm} (h:szF (.mk op nm args subs)):subs.length <= 9223372036854775807:=by unfold szF at h; exact h.2.1
theorem szF_subs {op:Nat} {nm:ByteArray} {args:List Tm} {subs:List Fm} (h:szF (.mk op nm args subs)):szFs subs:=by unfold szF at h; exact h.2.2
theorem szTs_mem {l:List Tm} {t:Tm} (h:szTs l) (hm:t ∈ l):szT t:=by
 induction l with
 | nil => cases hm
 | cons x r ih =>
  rcases List.mem_cons.1 hm with rfl | hm
  ·exact h.1
  ·exact ih h.2 hm
theorem szFs_mem {l:List Fm} {t:Fm} (h:szFs l) (hm:t ∈ l):szF t:=by
 induction l with
 | nil => cases hm
 | cons x r ih =>
  rcases List.mem_cons.1 hm with rfl | hm
  ·exact h.1
  ·exact ih h.2 hm
theorem len_nTs (l:List Tm):l.length <= nodesTs l:=by
 induction l with
 | nil => simp
 | cons t r ih =>
  have:1 <= nodesT t:=by cases t; unfold nodesT; omega
  simp only [nodesTs,List.length_cons]; omega
theorem len_nL (l:List Fm):l.length <= nodesL l:=by
 induction l with
 | nil => simp
 | cons t r ih =>
  have:1 <= nodesF t:=by cases t; unfold nodesF; omega
  simp only [nodesL,List.length_cons]; omega
mutual
theorem szT_of:∀ {t:Tm},nodesT t <= 900000 -> szT t
 | .mk _ _ args,h => by
  unfold nodesT at h
  unfold szT
  exact ⟨by have:=len_nTs args; omega,szTs_of (by omega)⟩
theorem szTs_of:∀ {l:List Tm},nodesTs l <= 900000 -> szTs l
 | [],_ => by unfold szTs; trivial
 | t :: r,h => by
  unfold nodesTs at h
  unfold szTs
  exact ⟨szT_of (by omega),szTs_of (by omega)⟩
end
mutual
theorem szF_of:∀ {f:Fm},nodesF f <= 900000 -> szF f
 | .mk _ _ args subs,h => by
  unfold nodesF at h
  unfold szF
  exact ⟨⟨by have:=len_nTs args; omega,szTs_of (by omega)⟩,by have:=len_nL subs; omega,szFs_of (by omega)⟩
theorem szFs_of:∀ {l:List Fm},nodesL l <= 900000 -> szFs l
 | [],_ => by unfold szFs; trivial
 | t :: r,h => by
  unfold nodesL at h
  unfold szFs
  exact ⟨szF_of (by omega),szFs_of (by omega)⟩
end
def TermOk (t:Tm):Prop:=∀ (w:World) (B n0:Nat) (l:Int) (D:Dp) (d:Nat) (sv:SL),JB w B l D -> 0 <= l /\ l <= 9223372036854775807 -> (d <= 1000000 /\ (D.n < 1000000 ∨ d + nodesT t <= 1000000)) -> szT t -> n0 <= w.heap.size -> IsTs (SJ B n0) w sv t.args -> t.name.size <= maxLen ->
 Calls Tryz.prog 61 #[.pointer (some ⟨B,0,none⟩),.agg #[.bool t.var,.string t.name,sv.v],.int .i64 (d:Int)] w (RetJ w B l D (nodesT t) (goodT D d t && decide ((nodesT t:Int) <= l)))
def TermsOk (ts:List Tm):Prop:=∀ (w:World) (B n0:Nat) (l:Int) (D:Dp) (d:Nat) (sv:SL),JB w B l D -> 0 <= l /\ l <= 9223372036854775807 -> (d <= 1000000 /\ (D.n < 1000000 ∨ d + nodesTs ts <= 1000000)) -> szA ts -> n0 <= w.heap.size -> IsTs (SJ B n0) w sv ts ->
 Calls Tryz.prog 84 #[.pointer (some ⟨B,0,none⟩),sv.v,.int .i64 (d:Int)] w (RetJ w B l D (nodesTs ts) (goodTs D d ts && decide ((nodesTs ts:Int) <= l)))
theorem goodTs_append (D:Dp) (d:Nat):∀ a b:List Tm,goodTs D d (a ++ b) = (goodTs D d a && goodTs D d b)
 | [],b => by simp [goodTs]
 | f :: a,b => by simp only [List.cons_append,goodTs,goodTs_append D d a b,Bool.and_assoc]
theorem take_one {α:Type} {ts:List α} {k:Nat} {t:α} (h:ts[k]? = some t):ts.take (k + 1) = ts.take k ++ [t]:=by
 obtain ⟨hk,rfl⟩:=List.getElem?_eq_some_iff.1 h
 rw [List.take_succ_eq_append_getElem hk]
theorem split_at {α:Type} {ts:List α} {k:Nat} {t:α} (h:ts[k]? = some t):ts = ts.take k ++ ([t] ++ ts.drop (k + 1)):=by
 obtain ⟨hk,rfl⟩:=List.getElem?_eq_some_iff.1 h
 rw [List.singleton_append,<- List.drop_eq_getElem_cons hk,List.take_append_drop]
theorem ts_at {S:Nat -> Prop} {W:World} {g o n c k:Nat} {ts:List Tm} {t:Tm} (h:IsTs S W ⟨some ⟨g,o,none⟩,n,c⟩ ts) (ht:ts[k]? = some t):∃ s:SL,W.cell? ⟨g,o + k * 3,none⟩ = some (.bool t.var) /\ W.cell? ⟨g,o + k * 3 + 1,none⟩ = some (.string t.name) /\ W.cell? ⟨g,o + k * 3 + 2,none⟩ = some s.v /\ IsTs S W s t.args /\ t.name.size <= maxLen:=by
 cases h with
 | nil a c => simp at ht
 | row g o c ts sv hg hc hs hz => exact ⟨sv k,hc k t ht 0 _ rfl,hc k t ht 1 _ rfl,hc k t ht 2 _ rfl,hs k t ht,hz t (List.mem_of_getElem? ht)⟩
set_option maxRecDepth 100000 in
set_option maxHeartbeats 2000000 in
theorem terms_of (ts:List Tm) (IH:∀ t ∈ ts,TermOk t):TermsOk ts:=by
 intro w B n0 l D d sv hJ hl hd hsz hn0 hT
 cases hT with
 | nil a c =>
  have e1:goodTs D d [] = true:=by unfold goodTs; rfl
  have e2:nodesTs [] = 0:=by unfold nodesTs; rfl
  rw [e1,e2,decide_eq_true (show ((0:Nat):Int) <= l by omega),Bool.true_and]
  clear e1 e2
  have HJ:=hid hJ
  clear hJ
  show Calls Tryz.prog 84 #[.pointer (some ⟨B,0,none⟩),.slice a 0 c,.int .i64 (d:Int)] w _
  go_enter Tryz.func84,Tryz.ntmps84
  go_wp2_with (fail)
  go_loopw [11] (fun i wr => i = .int .i64 0 /\ wr = w) (fun i _ => 0)
  case atStart => exact ⟨rfl,rfl⟩
  case round =>
   obtain ⟨rfl,rfl⟩:=hrel
   go_wp2_with (fail)
   go_ret
   exact ⟨rfl,HK.Frm.refl _ _,fun _ => by simpa using HJ.out⟩
 | row g o c ts sv hg hc hs hz =>
  obtain ⟨n,hn⟩:∃ n,n = ts.length:=⟨_,rfl⟩
  rw [<- hn]
  show Calls Tryz.prog 84 #[.pointer (some ⟨B,0,none⟩),.slice (some ⟨g,o,none⟩) n c,.int .i64 (d:Int)] w _
  have hts:IsTs (SJ B n0) w ⟨some ⟨g,o,none⟩,ts.length,c⟩ ts:=.row g o c ts sv hg hc hs hz
  have HTS:=hid hts
  have HJ:=hid hJ
  have HN:=hid hn
  have HIH:=hid IH
  have HL:=hid hl
  have HD:=hid hd
  have HSZ:=hid hsz
  have HN0:=hid hn0
  have hn6:n <= 9223372036854775807:=by rw [hn]; exact hsz.1
  clear hts hJ hn IH hl hd hsz hn0 hc hs hz hg sv
  go_enter Tryz.func84,Tryz.ntmps84
  go_wp2_with (fail)
  go_loopw [11] (fun i wr => ∃ k:Nat,k <= n /\ i = .int .i64 k /\ FJ B w wr /\ JB wr B (l - nodesTs (ts.take k)) D /\ goodTs D d (ts.take k) = true /\ (nodesTs (ts.take k):Int) <= l) (fun i _ => n - (intOf i).toNat)
  case atStart => exact ⟨0,by omega,rfl,HK.Frm.refl _ _,by simp [nodesTs]; exact HJ.out,rfl,by simp [nodesTs]; exact HL.out.1⟩
  case round =>
   obtain ⟨k,hk,rfl,hF,hJk,hgk,hlk⟩:=hrel
   by_cases hkn:(k:Int) < (n:Int)
   ·have b0:(0:Int) <= (k:Int):=by omega
    obtain ⟨t,ht⟩:∃ t,ts[k]? = some t:=⟨_,List.getElem?_eq_getElem (by rw [<- HN.out]; omega)⟩
    obtain ⟨s,c0,c1,c2,hs,hz⟩:=ts_at (HTS.out.turn (fj_turn hF HN0.out)) ht
    have hsp:=split_at ht
    have hNs:nodesTs ts = nodesTs (ts.take k) + (nodesT t + nodesTs (ts.drop (k + 1))):=by conv => lhs; rw [hsp]; rw [nodesTs_append,nodesTs_append]; simp [nodesTs]
    have hGs:goodTs D d ts = (goodTs D d (ts.take k) && (goodT D d t && goodTs D d (ts.drop (k + 1)))):=by conv => lhs; rw [hsp]; rw [goodTs_append,goodTs_append]; simp [goodTs]
    have hN1:nodesTs (ts.take (k + 1)) = nodesTs (ts.take k) + nodesT t:=by rw [take_one ht,nodesTs_append]; simp [nodesTs]
    have hG1:goodTs D d (ts.take (k + 1)) = (goodTs D d (ts.take k) && goodT D d t):=by rw [take_one ht,goodTs_append]; simp [goodTs]
    obtain ⟨m,hm⟩:∃ m,m = nodesTs (ts.take k):=⟨_,rfl⟩
    rw [<- hm] at hJk hlk hNs hN1
    rw [hgk,Bool.true_and] at hGs hG1
    have hih:=fun (o:Obj) => HIH.out t (List.mem_of_getElem? ht) (wr.alloc o) B n0 (l - m) D d s (HK.blk_alloc hJk o) (by have:=HL.out; omega) (by have:=HD.out; omega) (szTs_mem HSZ.out.2 (List.mem_of_getElem? ht)) (Nat.le_trans HN0.out (Nat.le_trans hF.size (by simp))) (hs.turn fun j hj => ⟨hj,Below.heap_alloc _ _ _ (Nat.lt_of_lt_of_le hj.2 (Nat.le_trans HN0.out hF.size))⟩) hz
    obtain ⟨ok,hok⟩:∃ ok,ok = (goodT D d t && decide ((nodesT t:Int) <= l - m)):=⟨_,rfl⟩
    rw [<- hok] at hih
    unfold RetJ at hih
    obtain ⟨nt,hnt⟩:∃ nt,nt = nodesT t:=⟨_,rfl⟩
    rw [<- hnt] at hih hok hNs hN1
    obtain ⟨gt,hgt⟩:∃ gt,gt = goodT D d t:=⟨_,rfl⟩
    rw [<- hgt] at hok hGs hG1
    clear hnt hgt hsp
    obtain ⟨var,name,args⟩:=t
    obtain ⟨sa,sn,sc⟩:=s
    simp only [FR.Tm.var,FR.Tm.name,SL.v] at c0 c1 c2 hih
    have HIHC:=hid hih
    have HF:=hid hF
    have HM:=hid hm
    have HOK:=hid hok
    have HNS:=hid hNs
    have HGS:=hid hGs
    have HN1:=hid hN1
    have HG1:=hid hG1
    have HLK:=hid hlk
    clear hih hF hm hok hNs hGs hN1 hG1 hlk hs hz hJk hgk ht
    cases ok
    ·have hfin:Hid ((goodTs D d ts && decide ((nodesTs ts:Int) <= l)) = false):=hid (by
      rw [HGS.out,HNS.out]
      have h:=HOK.out
      rcases gt with _ | _
      ·rfl
      ·have h2:¬ (nt:Int) <= l - m:=by simpa using h.symm
       rw [decide_eq_false (by omega)]; simp)
     go_wp2_with (go_at_call 61; ((with_reducible refine (HIHC.out _).mono ?_); rintro e w1 ⟨rfl,hF1,_⟩))
     go_ret
     exact ⟨by rw [hfin.out]; rfl,HF.out.trans (((HK.Frm.refl _ wr).alloc _).trans hF1),fun h => by rw [hfin.out] at h; cases h⟩
    ·go_wp2_with (go_at_call 61; ((with_reducible refine (HIHC.out _).mono ?_); rintro e w1 ⟨rfl,hF1,hJ1⟩))
     have HJ1:=hid hJ1
     clear hJ1
     go_roundw
     case rel =>
      have h2:gt = true /\ (nt:Int) <= l - m:=by simpa using HOK.out.symm
      have h3:=HJ1.out trivial
      refine ⟨k + 1,by omega,by go_num,HF.out.trans (((HK.Frm.refl _ wr).alloc _).trans hF1),?_,by rw [HG1.out]; exact h2.1,by rw [HN1.out]; omega⟩
      rw [HN1.out]
      rw [show l - ((m + nt:Nat):Int) = l - m - nt by omega]
      exact h3
     case measure => simp [intOf]; omega
   ·obtain rfl:k = n:=by omega
    have htk:ts.take k = ts:=List.take_of_length_le (by rw [HN.out]; exact Nat.le_refl _)
    rw [htk] at hJk hgk hlk
    have HJK:=hid hJk
    have HG:=hid hgk
    have HF:=hid hF
    have HE:=hid (show (goodTs D d ts && decide ((nodesTs ts:Int) <= l)) = true by rw [hgk,decide_eq_true hlk]; rfl)
    clear hJk hgk hF htk hlk
    go_wp2_with (fail)
    go_ret
    exact ⟨by rw [HE.out]; rfl,HF.out,fun _ => HJK.out⟩
theorem JB.sch {W:World} {B:Nat} {l:Int} {D:Dp} {b:Bool} (h:JB W B l D) (e:D.s = b):W.cell? ⟨B,0,none⟩ = some (.bool b):=by subst e; exact HK.blk_cell h 0
theorem frm_below {B:Nat} {A C:World} (h:Below A.heap.size A C):FJ B A C:=HK.Frm.of_below h _
theorem JB.below {W W':World} {B:Nat} {l:Int} {D:Dp} (h:JB W B l D) (hb:Below W.heap.size W W'):JB W' B l D:=(hb.block B (HK.blk_lt h)).trans h
set_option maxRecDepth 100000 in
set_option maxHeartbeats 2000000 in
theorem term_var (nm:ByteArray) (args:List Tm):TermOk (.mk true nm args):=by
 intro w B n0 l D d sv hJ hl hd hsz hn0 hT hz
 obtain ⟨sa,sn,sc⟩:=sv
 simp only [FR.Tm.var,FR.Tm.name,FR.Tm.args,SL.v] at hT hz ⊢
 have HSN:Hid (sn = args.length):=hid hT.len
 obtain ⟨N,hN⟩:∃ N,N = nodesT (.mk true nm args):=⟨_,rfl⟩
 have HN1:Hid (N = 1 + nodesTs args):=hid (by rw [hN]; unfold nodesT; rfl)
 obtain ⟨R,hR⟩:∃ R,R = (goodT D d (.mk true nm args) && decide ((N:Int) <= l)):=⟨_,rfl⟩
 rw [<- hN,<- hR]
 rw [<- hN] at hd
 have HR:Hid (R = (decide (d <= D.n) && (args.isEmpty && (checkB varB digitB nm || (D.s && tmB nm))) && decide ((N:Int) <= l))):=hid (by rw [hR]; unfold goodT; rfl)
 clear hN hR
 have hnd:=fun (o:Obj) => node_call (w.alloc o) B l D d (HK.blk_alloc hJ o) hl (by omega)
 obtain ⟨nb,hnb⟩:∃ nb,nb = (decide (1 <= l) && decide (d <= D.n)):=⟨_,rfl⟩
 rw [<- hnb] at hnd
 have HND:=hid hnd
 have HNB:=hid hnb
 clear hnd hnb
 have HBX:Hid (∀ (o:Obj) (W:World),FJ B (w.alloc o) W -> W.heap[w.heap.size]? = some o):=hid fun o W h => HK.Frm.heap h (HK.blk_new w o) (by have:=HK.blk_lt hJ; omega)
 have HF0:Hid (∀ o,FJ B w (w.alloc o)):=hid fun o => (HK.Frm.refl _ w).alloc _
 have HT:=hid hT
 have HN0:=hid hn0
 have HZ:=hid hz
 have HD:=hid hd
 have HSZ:=hid hsz
 have HL:=hid hl
 clear hT hn0 hJ hz hd hsz hl
 cases nb
 ·have hfin:Hid (R = false):=hid (by
   rw [HR.out]
   have hnb:=HNB.out
   have hN1:=HN1.out
   rcases e1:decide (d <= D.n) with _ | _
   ·rfl
   ·have:¬ 1 <= l:=by intro h; rw [e1,decide_eq_true h] at hnb; cases hnb
    rw [decide_eq_false (show ¬ (N:Int) <= l by omega)]; simp)
  go_enter Tryz.func61,Tryz.ntmps61
  go_wp2_with (go_at_call 81; ((with_reducible refine (HND.out _).mono ?_); rintro e w1 ⟨rfl,_,hF1⟩))
  go_ret
  exact ⟨by rw [hfin.out]; rfl,(HF0.out _).trans hF1,fun h => by rw [hfin.out] at h; cases h⟩
 ·have h12:Hid (1 <= l /\ d <= D.n):=hid (by simpa using HNB.out.symm)
  go_enter Tryz.func61,Tryz.ntmps61
  go_upto_region 3 with (go_at_call 81; ((with_reducible refine (HND.out _).mono ?_); rintro e w1 ⟨rfl,hJ1,hF1⟩))
  have hb:=HBX.out _ _ hF1
  have c0:=HK.blk_cell hb 0
  have c1:=HK.blk_cell hb 1
  have c2:=HK.blk_cell hb 2
  have HJ1:=hid hJ1
  have HF1:=hid ((HF0.out _).trans hF1)
  have HB1:=hid hb
  clear hJ1 hF1 hb
  by_cases h0:sn = 0
  ·have hvar:=fun W => variable_any W nm HZ.out
   have htm:=fun W => termMeta_any W nm HZ.out
   obtain ⟨vb,hvb⟩:∃ vb,vb = checkB varB digitB nm:=⟨_,rfl⟩
   obtain ⟨tb,htb⟩:∃ tb,tb = tmB nm:=⟨_,rfl⟩
   rw [<- hvb] at hvar
   rw [<- htb] at htm
   unfold RetW at hvar htm
   have hemp:args = []:=List.length_eq_zero_iff.1 (by rw [<- HSN.out]; exact h0)
   have hN2:N = 1:=by rw [HN1.out,hemp]; unfold nodesTs; rfl
   have hres:Hid (R = (vb || (D.s && tb))):=hid (by rw [HR.out,hemp,<- hvb,<- htb,hN2,decide_eq_true h12.out.2,decide_eq_true (show ((1:Nat):Int) <= l from h12.out.1)]; simp)
   have HVAR:=hid hvar
   have HTM:=hid htm
   have HN2:=hid hN2
   have hsi:((sn:Int) == 0) = true:=by simp; omega
   clear hvar hvb htm htb hemp hN2 h0
   cases vb
   ·rcases hds:D.s with _ | _
    ·have HDS:=hid hds
     have hres:Hid (R = false):=hid (by rw [hres.out,hds]; simp)
     clear hds
     go_wp2_with (go_at_call 58; ((with_reducible refine (HVAR.out _).mono ?_); rintro e w2 ⟨rfl,hB2⟩; have cj:=(HJ1.out.below hB2).sch HDS.out))
     go_ret
     exact ⟨by rw [hres.out]; rfl,HF1.out.trans (frm_below hB2),fun h => by rw [hres.out] at h; cases h⟩
    ·have HDS:=hid hds
     have hres:Hid (R = tb):=hid (by rw [hres.out,hds]; simp)
     clear hds
     go_wp2_with (first
      | (go_at_call 58; ((with_reducible refine (HVAR.out _).mono ?_); rintro e w2 ⟨rfl,hB2⟩; have cj:=(HJ1.out.below hB2).sch HDS.out; have cn:=HK.blk_cell ((hB2.block _ (HK.blk_lt HB1.out)).trans HB1.out) 1; have HJ2:=hid (HJ1.out.below hB2); have HF2:=hid (HF1.out.trans (frm_below hB2)); clear hB2))
      | (go_at_call 92; ((with_reducible refine (HTM.out _).mono ?_); rintro e w3 ⟨rfl,hB3⟩)))
     go_ret
     exact ⟨by rw [hres.out]; rfl,HF2.out.trans (frm_below hB3),fun _ => by rw [HN2.out]; exact HJ2.out.below hB3⟩
   ·have hres:Hid (R = true):=hid (by rw [hres.out]; simp)
    go_wp2_with (go_at_call 58; ((with_reducible refine (HVAR.out _).mono ?_); rintro e w2 ⟨rfl,hB2⟩; have cj:=HK.blk_cell (HJ1.out.below hB2) 0))
    go_ret
    exact ⟨by rw [hres.out]; rfl,HF1.out.trans (frm_below hB2),fun _ => by rw [HN2.out]; exact HJ1.out.below hB2⟩
  ·have hres:Hid (R = false):=hid (by
    rw [HR.out]
    have:args.isEmpty = false:=by
     have h1:=HSN.out
     cases args with
     | nil => exact absurd h1 h0
     | cons _ _ => rfl
    rw [this]; simp)
   have hsi:((sn:Int) == 0) = false:=by simp; omega
   have hsj:¬ (sn:Int) = 0:=by omega
   clear h0
   go_wp2_with (fail)
   go_ret
   exact ⟨by rw [hres.out]; rfl,HF1.out,fun h => by rw [hres.out] at h; cases h⟩
set_option maxRecDepth 100000 in
set_option maxHeartbeats 2000000 in
theorem term_fun (nm:ByteArray) (args:List Tm) (IH:TermsOk args):TermOk (.mk false nm args):=by
 intro w B n0 l D d sv hJ hl hd hsz hn0 hT hz
 obtain ⟨sa,sn,sc⟩:=sv
 simp only [FR.Tm.var,FR.Tm.name,FR.Tm.args,SL.v] at hT hz ⊢
 have HSN:Hid (sn = args.length):=hid hT.len
 obtain ⟨N,hN⟩:∃ N,N = nodesT (.mk false nm args):=⟨_,rfl⟩
 have HN1:Hid (N = 1 + nodesTs args):=hid (by rw [hN]; unfold nodesT; rfl)
 obtain ⟨R,hR⟩:∃ R,R = (goodT D d (.mk false nm args) && decide ((N:Int) <= l)):=⟨_,rfl⟩
 rw [<- hN,<- hR]
 rw [<- hN] at hd
 have HR:Hid (R = (decide (d <= D.n) && (decide (args.length <= 4) && checkB funB alnumB nm && goodTs D (d + 1) args) && decide ((N:Int) <= l))):=hid (by rw [hR]; unfold goodT; rfl)
 clear hN hR
 have hnd:=fun (o:Obj) => node_call (w.alloc o) B l D d (HK.blk_alloc hJ o) hl (by omega)
 obtain ⟨nb,hnb⟩:∃ nb,nb = (decide (1 <= l) && decide (d <= D.n)):=⟨_,rfl⟩
 rw [<- hnb] at hnd
 have HND:=hid hnd
 have HNB:=hid hnb
 clear hnd hnb
 have HBX:Hid (∀ (o:Obj) (W:World),FJ B (w.alloc o) W -> W.heap[w.heap.size]? = some o):=hid fun o W h => HK.Frm.heap h (HK.blk_new w o) (by have:=HK.blk_lt hJ; omega)
 have HF0:Hid (∀ o,FJ B w (w.alloc o)):=hid fun o => (HK.Frm.refl _ w).alloc _
 have HT:=hid hT
 have HN0:=hid hn0
 have HZ:=hid hz
 have HD:=hid hd
 have HSZ:=hid hsz
 have HL:=hid hl
 clear hT hn0 hJ hz hd hsz hl
 cases nb
 ·have hfin:Hid (R = false):=hid (by
   rw [HR.out]
   have hnb:=HNB.out
   have hN1:=HN1.out
   rcases e1:decide (d <= D.n) with _ | _
   ·rfl
   ·have:¬ 1 <= l:=by intro h; rw [e1,decide_eq_true h] at hnb; cases hnb
    rw [decide_eq_false (show ¬ (N:Int) <= l by omega)]; simp)
  go_enter Tryz.func61,Tryz.ntmps61
  go_wp2_with (go_at_call 81; ((with_reducible refine (HND.out _).mono ?_); rintro e w1 ⟨rfl,_,hF1⟩))
  go_ret
  exact ⟨by rw [hfin.out]; rfl,(HF0.out _).trans hF1,fun h => by rw [hfin.out] at h; cases h⟩
 ·have h12:Hid (1 <= l /\ d <= D.n):=hid (by simpa using HNB.out.symm)
  go_enter Tryz.func61,Tryz.ntmps61
  go_upto_region 3 with (go_at_call 81; ((with_reducible refine (HND.out _).mono ?_); rintro e w1 ⟨rfl,hJ1,hF1⟩))
  have hb:=HBX.out _ _ hF1
  have c0:=HK.blk_cell hb 0
  have c1:=HK.blk_cell hb 1
  have c2:=HK.blk_cell hb 2
  have HJ1:=hid hJ1
  have HF1:=hid ((HF0.out _).trans hF1)
  have HB1:=hid hb
  clear hJ1 hF1 hb
  by_cases h4:sn <= 4
  ·have hfun:=fun W => function_any W nm HZ.out
   obtain ⟨vb,hvb⟩:∃ vb,vb = checkB funB alnumB nm:=⟨_,rfl⟩
   rw [<- hvb] at hfun
   unfold RetW at hfun
   have HVAR:=hid hfun
   have h4i:(sn:Int) <= 4:=by omega
   have HVB:=hid hvb
   clear hfun hvb
   cases vb
   ·have hres:Hid (R = false):=hid (by rw [HR.out,<- HVB.out]; simp)
    go_wp2_with (go_at_call 59; ((with_reducible refine (HVAR.out _).mono ?_); rintro e w2 ⟨rfl,hB2⟩))
    go_ret
    exact ⟨by rw [hres.out]; rfl,HF1.out.trans (frm_below hB2),fun h => by rw [hres.out] at h; cases h⟩
   ·obtain ⟨ok,hok⟩:∃ ok,ok = (goodTs D (d + 1) args && decide ((nodesTs args:Int) <= l - 1)):=⟨_,rfl⟩
    have hres:Hid (R = ok):=hid (by
     rw [HR.out,<- HVB.out,decide_eq_true h12.out.2,hok,decide_eq_true (show args.length <= 4 by rw [<- HSN.out]; exact h4)]
     have:decide ((N:Int) <= l) = decide ((nodesTs args:Int) <= l - 1):=by
      have:=HN1.out
      by_cases h:(nodesTs args:Int) <= l - 1
      ·rw [decide_eq_true h,decide_eq_true (by omega)]
      ·rw [decide_eq_false h,decide_eq_false (by omega)]
     rw [this]; simp)
    have hih:=fun (W:World) (hB:Below W.heap.size W W) (hJ:JB W B (l - 1) D) (hF:FJ B w W) => IH W B n0 (l - 1) D (d + 1) ⟨sa,sn,sc⟩ hJ (by have:=HL.out; have:=h12.out; omega) (by have:=HD.out; have:=HN1.out; have:=h12.out; omega) (szT_args HSZ.out) (Nat.le_trans HN0.out hF.size) (HT.out.turn (fj_turn hF HN0.out))
    rw [<- hok] at hih
    unfold RetJ at hih
    simp only [SL.v] at hih
    have hw:wrap64 ((d:Int) + 1) = ((d + 1:Nat):Int):=by have hd1:=HD.out.1; rw [IntWalk.wrap64_in ((d:Int) + 1) (by omega)]; omega
    rw [<- hw] at hih
    have HIH:=hid hih
    clear hih hok h4 hw
    go_wp2_with (first
     | (go_at_call 59; ((with_reducible refine (HVAR.out _).mono ?_); rintro e w2 ⟨rfl,hB2⟩; have c2':=HK.blk_cell ((hB2.block _ (HK.blk_lt HB1.out)).trans HB1.out) 2; have HF2:=hid (HF1.out.trans (frm_below hB2)); have HJ2:=hid (HJ1.out.below hB2); clear hB2))
     | (go_at_call 84; ((with_reducible refine (HIH.out _ (Below.refl _ _) HJ2.out HF2.out).mono ?_); rintro e w3 ⟨rfl,hF3,hJ3⟩)))
    go_ret
    exact ⟨by rw [hres.out]; rfl,HF2.out.trans hF3,fun h => by
     have h5:=hJ3 (by rw [<- hres.out]; exact h)
     rw [HN1.out,show l - ((1 + nodesTs args:Nat):Int) = l - 1 - (nodesTs args:Nat) by omega]; exact h5⟩
  ·have hres:Hid (R = false):=hid (by rw [HR.out,decide_eq_false (show ¬ args.length <= 4 by rw [<- HSN.out]; exact h4)]; simp)
   have h4i:¬ (sn:Int) <= 4:=by omega
   clear h4
   go_wp2_with (fail)
   go_ret
   exact ⟨by rw [hres.out]; rfl,HF1.out,fun h => by rw [hres.out] at h; cases h⟩
mutual
theorem term_ok:∀ t:Tm,TermOk t
 | .mk true nm args => term_var nm args
 | .mk false nm args => term_fun nm args (terms_of args (terms_all args))
theorem terms_all:∀ (l:List Tm),∀ t ∈ l,TermOk t
 | [],t,h => by cases h
 | u :: r,t,h => by
  rcases List.mem_cons.1 h with h | h
  ·rw [h]; exact term_ok u
  ·exact terms_all r t h
end
theorem terms_ok (l:List Tm):TermsOk l:=terms_of l (terms_all l)
end Go.Proofs.YtdobflpbkfkmgaaGreatDoor
namespace Go.Proofs.YtdobflpbkfkmgaaGreatDoor
open Go.RowKit Go.HK Go.FR Lib
set_option linter.unusedVariables false
set_option linter.unusedSimpArgs false
set_option linter.unusedSectionVars false
def namedB (n:Nat) (s:ByteArray):Bool:=if n = 1 then checkB capB alnumB s else if n = 2 then checkB varB digitB s else if n = 3 then fmB s else s.toList.isEmpty
set_option maxRecDepth 100000 in
set_option maxHeartbeats 1000000 in
theorem named_call (w:World) (n:Nat) (s:ByteArray) (hn:n < 256) (hs:s.size <= maxLen):Calls Tryz.prog 82 #[.int .u8 (n:Int),.string s] w (RetW w (namedB n s)):=by
 have hp:=predicate_any w s hs
 have hv:=variable_any w s hs
 have hf:=formMeta_any w s hs
 unfold namedB
 obtain ⟨b1,h1⟩:∃ b,b = checkB capB alnumB s:=⟨_,rfl⟩
 obtain ⟨b2,h2⟩:∃ b,b = checkB varB digitB s:=⟨_,rfl⟩
 obtain ⟨b3,h3⟩:∃ b,b = fmB s:=⟨_,rfl⟩
 rw [<- h1] at hp ⊢
 rw [<- h2] at hv ⊢
 rw [<- h3] at hf ⊢
 clear h1 h2 h3
 unfold RetW at hp hv hf
 have HP:=hid hp
 have HV:=hid hv
 have HF:=hid hf
 clear hp hv hf
 by_cases e1:n = 1
 ·subst e1
  rw [if_pos rfl]
  go_enter Tryz.func82,Tryz.ntmps82
  go_wp2_with (go_at_call 112; ((with_reducible refine HP.out.mono ?_); rintro e w1 ⟨rfl,hB⟩))
  go_ret
  exact ⟨rfl,hB⟩
 ·rw [if_neg e1]
  have d1:((n:Int) == 1) = false:=by simp; omega
  have d1':¬ (n:Int) = 1:=by omega
  clear e1
  by_cases e2:n = 2
  ·subst e2
   rw [if_pos rfl]
   go_enter Tryz.func82,Tryz.ntmps82
   go_wp2_with (go_at_call 58; ((with_reducible refine HV.out.mono ?_); rintro e w1 ⟨rfl,hB⟩))
   go_ret
   exact ⟨rfl,hB⟩
  ·rw [if_neg e2]
   have d2:((n:Int) == 2) = false:=by simp; omega
   have d2':¬ (n:Int) = 2:=by omega
   clear e2
   by_cases e3:n = 3
   ·subst e3
    rw [if_pos rfl]
    go_enter Tryz.func82,Tryz.ntmps82
    go_wp2_with (go_at_call 113; ((with_reducible refine HF.out.mono ?_); rintro e w1 ⟨rfl,hB⟩))
    go_ret
    exact ⟨rfl,hB⟩
   ·rw [if_neg e3]
    have d3:((n:Int) == 3) = false:=by simp; omega
    have d3':¬ (n:Int) = 3:=by omega
    clear e3
    go_enter Tryz.func82,Tryz.ntmps82
    go_wp2
    go_ret
    exact ⟨rfl,Below.refl _ _⟩
def rR (op:Nat):Bool:=decide (1 <= op) && decide (op <= 14)
def rS (op:Nat):Bool:=decide (1 <= op) && decide (op <= 16)
def rN (op:Nat):Nat:=if op = 1 then 1 else if op = 8 ∨ op = 9 then 2 else if op = 15 ∨ op = 16 then 3 else 0
def rA (op:Nat):Nat:=if op = 1 then 4 else if op = 16 then 2 else 0
def rB (op:Nat):Nat:=if op = 3 ∨ (8 <= op /\ op <= 13) then 1 else if (4 <= op /\ op <= 7) ∨ op = 14 then 2 else 0
def IsRows (W:World):Prop:=∀ i < 17,W.cell? ⟨1,i * 5,none⟩ = some (.bool (rR i)) /\ W.cell? ⟨1,i * 5 + 1,none⟩ = some (.bool (rS i)) /\ W.cell? ⟨1,i * 5 + 2,none⟩ = some (.int .u8 (rN i:Int)) /\ W.cell? ⟨1,i * 5 + 3,none⟩ = some (.int .i64 (rA i:Int)) /\ W.cell? ⟨1,i * 5 + 4,none⟩ = some (.int .i64 (rB i:Int))
theorem IsRows.turn {W W':World} (h:IsRows W) (hb:W'.heap[1]? = W.heap[1]?):IsRows W':=fun i hi => by
 obtain ⟨a,b,c,d,e⟩:=h i hi
 exact ⟨(World.cell?_of_block (a:=⟨1,_,none⟩) hb).trans a,(World.cell?_of_block (a:=⟨1,_,none⟩) hb).trans b,(World.cell?_of_block (a:=⟨1,_,none⟩) hb).trans c,(World.cell?_of_block (a:=⟨1,_,none⟩) hb).trans d,(World.cell?_of_block (a:=⟨1,_,none⟩) hb).trans e⟩
theorem IsRows.pos {W:World} (h:IsRows W):1 < W.heap.size:=World.block_lt_of_cell? W ⟨1,_,none⟩ (h 0 (by omega)).1
theorem ts_pos {S:Nat -> Prop} {W:World} {a:Option Addr} {n c:Nat} {ts:List Tm} (h:IsTs S W ⟨a,n,c⟩ ts) (hn:0 < n):∃ g o,a = some ⟨g,o,none⟩:=by
 cases h with
 | nil a c => omega
 | row g o c ts sv hg hc hs hz => exact ⟨g,o,rfl⟩
def instB (l:List Tm):Bool:=match l with
 | [x,t] => x.var && checkB varB digitB x.name && t.var && tmB t.name
 | _ => false
set_option maxRecDepth 100000 in
set_option maxHeartbeats 1000000 in
theorem inst_call (S:Nat -> Prop) (w:World) (sv:SL) (l:List Tm) (h:IsTs S w sv l) (hS:∀ k,S k -> k < w.heap.size):Calls Tryz.prog 83 #[sv.v] w (RetW w (instB l)):=by
 obtain ⟨sa,sn,sc⟩:=sv
 have hn:=h.len
 simp only [SL.v] at hn ⊢
 by_cases h2:sn = 2
 ·subst h2
  obtain ⟨x,t,rfl⟩:∃ x t,l = [x,t]:=by
   match l,hn with
   | [x,t],_ => exact ⟨x,t,rfl⟩
  obtain ⟨g,o,rfl⟩:∃ g o,sa = some ⟨g,o,none⟩:=by
   exact ts_pos h (by omega)
  obtain ⟨s0,p0,p1,p2,_,pz⟩:=ts_at (k:=0) (t:=x) h rfl
  obtain ⟨s1,q0,q1,q2,_,qz⟩:=ts_at (k:=1) (t:=t) h rfl
  clear p2 q2
  simp only [Nat.zero_mul,Nat.one_mul,Nat.add_zero] at p0 p1 q0 q1
  have hgS:g < w.heap.size:=World.block_lt_of_cell? w _ p0
  have HX:Hid (∀ W,Below w.heap.size w W -> W.heap[g]? = w.heap[g]?):=hid fun W hB => hB.block _ hgS
  have hvar:=fun W => variable_any W x.name pz
  have htm:=fun W => termMeta_any W t.name qz
  obtain ⟨vb,hvb⟩:∃ vb,vb = checkB varB digitB x.name:=⟨_,rfl⟩
  obtain ⟨tb,htb⟩:∃ tb,tb = tmB t.name:=⟨_,rfl⟩
  have HR:Hid (instB [x,t] = (x.var && vb && t.var && tb)):=hid (by rw [hvb,htb]; rfl)
  obtain ⟨R,hR⟩:∃ R,R = instB [x,t]:=⟨_,rfl⟩
  rw [<- hR] at HR ⊢
  rw [<- hvb] at hvar
  rw [<- htb] at htm
  unfold RetW at hvar htm
  obtain ⟨xv,xn,xa⟩:=x
  obtain ⟨tv,tn,ta⟩:=t
  simp only [FR.Tm.var,FR.Tm.name] at p0 p1 q0 q1 hvar htm HR pz qz
  have HVAR:=hid hvar
  have HTM:=hid htm
  have Q0:=hid q0
  have Q1:=hid q1
  clear hvar htm hvb htb hR h hn pz qz hgS q0 q1
  cases xv
  ·go_enter Tryz.func83,Tryz.ntmps83
   go_wp2_with (fail)
   go_ret
   exact ⟨by rw [HR.out]; rfl,Below.refl _ _⟩
  ·cases vb
   ·go_enter Tryz.func83,Tryz.ntmps83
    go_wp2_with (go_at_call 58; ((with_reducible refine (HVAR.out _).mono ?_); rintro e w2 ⟨rfl,hB2⟩))
    go_ret
    exact ⟨by rw [HR.out]; rfl,hB2⟩
   ·cases tv
    ·go_enter Tryz.func83,Tryz.ntmps83
     go_wp2_with (go_at_call 58; ((with_reducible refine (HVAR.out _).mono ?_); rintro e w2 ⟨rfl,hB2⟩; have q0:=(World.cell?_of_block (HX.out _ hB2)).trans Q0.out))
     go_ret
     exact ⟨by rw [HR.out]; rfl,hB2⟩
    ·go_enter Tryz.func83,Tryz.ntmps83
     go_wp2_with (first
      | (go_at_call 58; ((with_reducible refine (HVAR.out _).mono ?_); rintro e w2 ⟨rfl,hB2⟩; have q0:=(World.cell?_of_block (HX.out _ hB2)).trans Q0.out; have q1:=(World.cell?_of_block (HX.out _ hB2)).trans Q1.out; have HB2:=hid hB2; clear hB2))
      | (go_at_call 92; ((with_reducible refine (HTM.out _).mono ?_); rintro e w3 ⟨rfl,hB3⟩)))
     go_ret
     exact ⟨by rw [HR.out]; simp,HB2.out.trans (hB3.mono HB2.out.size)⟩
 ·have hf:instB l = false:=by
   unfold instB
   match l,hn with
   | [],_ => rfl
   | [_],_ => rfl
   | [_,_],hn => exact absurd hn h2
   | _ :: _ :: _ :: _,_ => rfl
  rw [hf]
  have d1:((sn:Int) == 2) = false:=by simp; omega
  have d2:¬ (sn:Int) = 2:=by omega
  clear hf h2 h hn
  go_enter Tryz.func83,Tryz.ntmps83
  go_wp2_with (fail)
  go_ret
  exact ⟨rfl,Below.refl _ _⟩
mutual
def goodF (D:Dp) (d:Nat):Fm -> Bool
 | .mk op nm args subs => decide (d <= D.n) && (rR op || (D.s && rS op)) && namedB (rN op) nm && (!decide (op = 16) || instB args) && decide (args.length <= rA op) && decide (subs.length = rB op) && goodTs D (d + 1) args && goodFs D (d + 1) subs
def goodFs (D:Dp) (d:Nat):List Fm -> Bool
 | [] => true
 | f :: r => goodF D d f && goodFs D d r
end
def FormOk (f:Fm):Prop:=∀ (w:World) (B n0:Nat) (l:Int) (D:Dp) (d:Nat) (av sv:SL),JB w B l D -> IsRows w -> B ≠ 1 -> 0 <= l /\ l <= 9223372036854775807 -> (d <= 1000000 /\ (D.n < 1000000 ∨ d + nodesF f <= 1000000)) -> szF f -> n0 <= w.heap.size -> IsTs (SJ B n0) w av f.args -> IsFs (SJ B n0) w sv f.subs -> f.op < 256 -> f.name.size <= maxLen ->
 Calls Tryz.prog 51 #[.pointer (some ⟨B,0,none⟩),.agg #[.int .u8 (f.op:Int),.string f.name,av.v,sv.v],.int .i64 (d:Int)] w (RetJ w B l D (nodesF f) (goodF D d f && decide ((nodesF f:Int) <= l)))
theorem goodFs_append (D:Dp) (d:Nat):∀ a b:List Fm,goodFs D d (a ++ b) = (goodFs D d a && goodFs D d b)
 | [],b => by simp [goodFs]
 | f :: a,b => by simp only [List.cons_append,goodFs,goodFs_append D d a b,Bool.and_assoc]
theorem fs_at {S:Nat -> Prop} {W:World} {g o n c k:Nat} {fs:List Fm} {f:Fm} (h:IsFs S W ⟨some ⟨g,o,none⟩,n,c⟩ fs) (ht:fs[k]? = some f):∃ a s:SL,W.cell? ⟨g,o + k * 4,none⟩ = some (.int .u8 (f.op:Int)) /\ W.cell? ⟨g,o + k * 4 + 1,none⟩ = some (.string f.name) /\ W.cell? ⟨g,o + k * 4 + 2,none⟩ = some a.v /\ W.cell? ⟨g,o + k * 4 + 3,none⟩ = some s.v /\ IsTs S W a f.args /\ IsFs S W s f.subs /\ f.op < 256 /\ f.name.size <= maxLen:=by
 cases h with
 | nil a c => simp at ht
 | row g o c fs av sv hg hc ha hs hz => exact ⟨av k,sv k,hc k f ht 0 _ rfl,hc k f ht 1 _ rfl,hc k f ht 2 _ rfl,hc k f ht 3 _ rfl,ha k f ht,hs k f ht,hz f (List.mem_of_getElem? ht)⟩
theorem IsFs.pos {S:Nat -> Prop} {W:World} {a:Option Addr} {n c:Nat} {fs:List Fm} (h:IsFs S W ⟨a,n,c⟩ fs) (hn:0 < n):∃ g o,a = some ⟨g,o,none⟩:=by
 cases h with
 | nil a c => omega
 | row g o c fs av sv hg hc ha hs hz => exact ⟨g,o,rfl⟩
set_option maxRecDepth 100000 in
set_option maxHeartbeats 2000000 in
theorem form_of (op:Nat) (nm:ByteArray) (args:List Tm) (subs:List Fm) (IH:∀ f ∈ subs,FormOk f) (w:World) (B n0:Nat) (l:Int) (D:Dp) (d:Nat) (av sv:SL) (hJ:JB w B l D) (hrw:IsRows w) (hB0:B ≠ 1) (hl:0 <= l /\ l <= 9223372036854775807) (hd:(d <= 1000000 /\ (D.n < 1000000 ∨ d + nodesF (.mk op nm args subs) <= 1000000))) (hsz:szF (.mk op nm args subs)) (hn0:n0 <= w.heap.size) (hT:IsTs (SJ B n0) w av args) (hS:IsFs (SJ B n0) w sv subs) (hop:op < 256) (hz:nm.size <= maxLen) (hnm:¬ (D.s = true /\ (op = 15 ∨ op = 16))) :
  Calls Tryz.prog 51 #[.pointer (some ⟨B,0,none⟩),.agg #[.int .u8 (op:Int),.string nm,av.v,sv.v],.int .i64 (d:Int)] w (RetJ w B l D (nodesF (.mk op nm args subs)) (goodF D d (.mk op nm args subs) && decide ((nodesF (.mk op nm args subs):Int) <= l))):=by
 obtain ⟨aa,an,ac⟩:=av
 obtain ⟨sa,sn,sc⟩:=sv
 simp only [SL.v]
 have HAN:Hid (an = args.length):=hid hT.len
 have HSN:Hid (sn = subs.length):=hid hS.len
 obtain ⟨N,hN⟩:∃ N,N = nodesF (.mk op nm args subs):=⟨_,rfl⟩
 have HN1:Hid (N = 1 + nodesTs args + nodesL subs):=hid (by rw [hN]; unfold nodesF; rfl)
 obtain ⟨R,hR⟩:∃ R,R = (goodF D d (.mk op nm args subs) && decide ((N:Int) <= l)):=⟨_,rfl⟩
 rw [<- hN,<- hR]
 rw [<- hN] at hd
 have HR:Hid (R = (decide (d <= D.n) && rR op && namedB (rN op) nm && decide (args.length <= rA op) && decide (subs.length = rB op) && goodTs D (d + 1) args && goodFs D (d + 1) subs && decide ((N:Int) <= l))):=hid (by
  rw [hR]; unfold goodF
  rcases hr:rR op with _ | _
  ·have:(D.s && rS op) = false:=by
    rcases hds:D.s with _ | _
    ·rfl
    ·rcases hrs:rS op with _ | _
     ·rfl
     ·exfalso
      unfold rR at hr; unfold rS at hrs
      simp at hr hrs
      exact hnm ⟨hds,by omega⟩
   rw [this]; simp
  ·have:decide (op = 16) = false:=by
    unfold rR at hr; simp at hr ⊢; omega
   rw [this]; simp)
 clear hN hR
 have hnd:=fun (o:Obj) => node_call (w.alloc o) B l D d (HK.blk_alloc hJ o) hl (by omega)
 obtain ⟨nb,hnb⟩:∃ nb,nb = (decide (1 <= l) && decide (d <= D.n)):=⟨_,rfl⟩
 rw [<- hnb] at hnd
 have HND:=hid hnd
 have HNB:=hid hnb
 clear hnd hnb
 have HBX:Hid (∀ (o:Obj) (W:World),FJ B (w.alloc o) W -> W.heap[w.heap.size]? = some o):=hid fun o W h => HK.Frm.heap h (HK.blk_new w o) (by have:=HK.blk_lt hJ; omega)
 have HF0:Hid (∀ o,FJ B w (w.alloc o)):=hid fun o => (HK.Frm.refl _ w).alloc _
 have HT:=hid hT
 have HS:=hid hS
 have HN0:=hid hn0
 have HZ:=hid hz
 have HD:=hid hd
 have HSZ:=hid hsz
 have HL:=hid hl
 have HRW:=hid hrw
 have HB0:=hid hB0
 have HIH:=hid IH
 clear hT hS hn0 hJ hz hd hsz hl hrw hB0 IH
 cases nb
 ·have hfin:Hid (R = false):=hid (by
   rw [HR.out]
   have hnb:=HNB.out
   have hN1:=HN1.out
   rcases e1:decide (d <= D.n) with _ | _
   ·rfl
   ·have:¬ 1 <= l:=by intro h; rw [e1,decide_eq_true h] at hnb; cases hnb
    rw [decide_eq_false (show ¬ (N:Int) <= l by omega)]; simp)
  go_enter Tryz.func51,Tryz.ntmps51
  go_wp2_with (go_at_call 81; ((with_reducible refine (HND.out _).mono ?_); rintro e w1 ⟨rfl,_,hF1⟩))
  go_ret
  exact ⟨by rw [hfin.out]; rfl,(HF0.out _).trans hF1,fun h => by rw [hfin.out] at h; cases h⟩
 ·have h12:Hid (1 <= l /\ d <= D.n):=hid (by simpa using HNB.out.symm)
  by_cases h17:op < 17
  ·have o1:(op:Int) < 17:=by omega
   have o2:¬ (17:Int) <= (op:Int):=by omega
   go_enter Tryz.func51,Tryz.ntmps51
   go_upto_region 3 with (go_at_call 81; ((with_reducible refine (HND.out _).mono ?_); rintro e w1 ⟨rfl,hJ1,hF1⟩; have c0:=HK.blk_cell (HBX.out _ _ hF1) 0))
   have hb:=HBX.out _ _ hF1
   have HJ1:=hid hJ1
   have HF1:=hid ((HF0.out _).trans hF1)
   have hrw1:IsRows w1:=HRW.out.turn ((HF0.out _).trans hF1 |>.block 1 HRW.out.pos (Ne.symm HB0.out))
   obtain ⟨q0,q1,q2,q3,q4⟩:=hrw1 op h17
   have c0:=HK.blk_cell hb 0
   have c1:=HK.blk_cell hb 1
   have cj:=HK.blk_cell hJ1 0
   have HB1:=hid hb
   clear hJ1 hF1 hb hrw1
   obtain ⟨r,hr⟩:∃ r,r = rR op:=⟨_,rfl⟩
   obtain ⟨rs,hrs⟩:∃ r,r = rS op:=⟨_,rfl⟩
   obtain ⟨kn,hkn⟩:∃ r,r = rN op:=⟨_,rfl⟩
   obtain ⟨ka,hka⟩:∃ r,r = rA op:=⟨_,rfl⟩
   obtain ⟨kb,hkb⟩:∃ r,r = rB op:=⟨_,rfl⟩
   have hka4:ka <= 4:=by rw [hka]; unfold rA; split <;> (try split) <;> omega
   have hkb2:kb <= 2:=by rw [hkb]; unfold rB; split <;> (try split) <;> omega
   have hkn3:kn < 256:=by rw [hkn]; unfold rN; split <;> (try split) <;> (try split) <;> omega
   rw [<- hr] at q0
   rw [<- hrs] at q1
   rw [<- hkn] at q2
   rw [<- hka] at q3
   rw [<- hkb] at q4
   have HR1:Hid (R = (r && namedB kn nm && decide (args.length <= ka) && decide (subs.length = kb) && goodTs D (d + 1) args && goodFs D (d + 1) subs && decide ((N:Int) <= l))):=hid (by rw [HR.out,decide_eq_true h12.out.2,Bool.true_and,<- hr,<- hkn,<- hka,<- hkb])
   have HRO:=hid hr
   have HRS:=hid hrs
   clear hr hrs hkn hka hkb
   have hbo:=HK.blk_alloc HB1.out (Obj.cells #[.bool r,.bool rs,.int .u8 (kn:Int),.int .i64 (ka:Int),.int .i64 (kb:Int)] 122)
   have e1:=HK.blk_cell hbo 1
   have e2:=HK.blk_cell hbo 2
   have e3:=HK.blk_cell hbo 3
   have ej0:JB _ B (l - 1) D:=HK.blk_alloc HJ1.out (Obj.cells #[.bool r,.bool rs,.int .u8 (kn:Int),.int .i64 (ka:Int),.int .i64 (kb:Int)] 122)
   have ej:=HK.blk_cell (HK.blk_alloc HJ1.out (Obj.cells #[.bool r,.bool rs,.int .u8 (kn:Int),.int .i64 (ka:Int),.int .i64 (kb:Int)] 122)) 0
   clear hbo
   cases r
   ·have hres:Hid (R = false):=hid (by rw [HR1.out]; simp)
    rcases hds:D.s with _ | _
    ·have ej':=ej0.sch hds
     clear ej
     go_wp2_with (fail)
     go_ret
     exact ⟨by rw [hres.out]; rfl,HF1.out.trans ((HK.Frm.refl _ w1).alloc _),fun h => by rw [hres.out] at h; cases h⟩
    ·have ej':=ej0.sch hds
     obtain rfl:rs = false:=by
      have h1:=HRO.out
      rw [HRS.out]
      rcases hrs:rS op with _ | _
      ·rfl
      ·exfalso
       unfold rR at h1; unfold rS at hrs
       simp at h1 hrs
       exact hnm ⟨hds,by omega⟩
     clear ej
     go_wp2_with (fail)
     go_ret
     exact ⟨by rw [hres.out]; rfl,HF1.out.trans ((HK.Frm.refl _ w1).alloc _),fun h => by rw [hres.out] at h; cases h⟩
   ·have ho16:¬ (op:Int) = 16:=by
     have:=HRO.out
     unfold rR at this
     simp at this
     omega
    have ho16':((op:Int) == 16) = false:=by simp; omega
    clear HRO
    have hnm:=fun W => named_call W kn nm hkn3 HZ.out
    obtain ⟨vb,hvb⟩:∃ vb,vb = namedB kn nm:=⟨_,rfl⟩
    rw [<- hvb] at hnm
    unfold RetW at hnm
    have HNM:=hid hnm
    have HVB:=hid hvb
    have HRX:Hid (∀ (o:Obj) (W:World),Below (w1.alloc o).heap.size (w1.alloc o) W -> W.heap[w1.heap.size]? = some o):=hid fun o W h => (h.block _ (by simp)).trans (HK.blk_new w1 o)
    have HBY:Hid (∀ (o:Obj) (W:World),Below (w1.alloc o).heap.size (w1.alloc o) W -> W.heap[w.heap.size]? = some (Obj.cells #[Value.int IntKind.u8 ↑op,Value.string nm,Value.slice aa an ac,Value.slice sa sn sc] 28)):=hid fun o W h => (h.block _ (by have:=HK.blk_lt HB1.out; simp; omega)).trans (HK.blk_alloc HB1.out o)
    clear hnm hvb
    cases vb
    ·have hres:Hid (R = false):=hid (by rw [HR1.out,<- HVB.out]; simp)
     go_wp2_with (go_at_call 82; ((with_reducible refine (HNM.out _).mono ?_); rintro e w2 ⟨rfl,hB2⟩; have r3:=HK.blk_cell (HRX.out _ _ hB2) 3))
     go_ret
     exact ⟨by rw [hres.out]; rfl,HF1.out.trans (((HK.Frm.refl _ w1).alloc _).trans (frm_below hB2)),fun h => by rw [hres.out] at h; cases h⟩
    ·by_cases hal:an <= ka
     ·have a1:¬ (ka:Int) < (an:Int):=by omega
      by_cases hsl:sn = kb
      ·subst hsl
       have HR2:Hid (R = (goodTs D (d + 1) args && goodFs D (d + 1) subs && decide ((N:Int) <= l))):=hid (by
        rw [HR1.out,<- HVB.out,decide_eq_true (show args.length <= ka by rw [<- HAN.out]; exact hal),decide_eq_true (show subs.length = sn from HSN.out.symm)]; simp)
       clear hal
       go_upto_region 8 with (go_at_call 82; ((with_reducible refine (HNM.out _).mono ?_); rintro e w2 ⟨rfl,hB2⟩; have r3:=HK.blk_cell (HRX.out _ _ hB2) 3; have r4:=HK.blk_cell (HRX.out _ _ hB2) 4; have d2:=HK.blk_cell (HBY.out _ _ hB2) 2; have d3:=HK.blk_cell (HBY.out _ _ hB2) 3))
       have HF2:Hid (FJ B w w2):=hid (HF1.out.trans (((HK.Frm.refl _ w1).alloc _).trans (frm_below hB2)))
       have HJ2:Hid (JB w2 B (l - 1) D):=hid (JB.below (HK.blk_alloc HJ1.out _) hB2)
       have hb2:=HBY.out _ _ hB2
       have f0:=HK.blk_cell hb2 0
       have f2:=HK.blk_cell hb2 2
       have HB2:=hid hb2
       have hih:=terms_ok args w2 B n0 (l - 1) D (d + 1) ⟨aa,an,ac⟩ HJ2.out (by have:=HL.out; have:=h12.out; omega) (by have:=HD.out; have:=HN1.out; have:=h12.out; omega) (szF_args HSZ.out) (Nat.le_trans HN0.out HF2.out.size) (HT.out.turn (fj_turn HF2.out HN0.out))
       obtain ⟨ok,hok⟩:∃ ok,ok = (goodTs D (d + 1) args && decide ((nodesTs args:Int) <= l - 1)):=⟨_,rfl⟩
       rw [<- hok] at hih
       unfold RetJ at hih
       simp only [SL.v] at hih
       have hw:wrap64 ((d:Int) + 1) = ((d + 1:Nat):Int):=by have hd1:=HD.out.1; rw [IntWalk.wrap64_in ((d:Int) + 1) (by omega)]; omega
       have hw':=hw
       have HW:=hid hw
       rw [<- hw] at hih
       have HTM:=hid hih
       have HOK:=hid hok
       clear hb2 hih hok hw hw' d2 d3 r3 r4 hB2 q0 q1 q2 q3 q4 c0 c1 cj e1 e2 e3 ej HNM HRX HBY
       have HBZ:Hid (∀ W,FJ B w2 W -> W.heap[w.heap.size]? = some (Obj.cells #[Value.int IntKind.u8 ↑op,Value.string nm,Value.slice aa an ac,Value.slice sa sn sc] 28)):=hid fun W h => HK.Frm.heap h HB2.out (by have:=HK.blk_lt HJ1.out; have:=HF1.out; intro e; rw [e] at HB1; have:=HB1.out.symm.trans HJ1.out; simp at this)
       cases ok
       ·have hres:Hid (R = false):=hid (by
         rw [HR2.out]
         have h:=HOK.out
         have:=HN1.out
         rcases e1:goodTs D (d + 1) args with _ | _
         ·rfl
         ·rw [e1] at h
          have h2:¬ (nodesTs args:Int) <= l - 1:=by simpa using h.symm
          rw [decide_eq_false (show ¬ (N:Int) <= l by omega)]; simp)
        go_wp2_with (go_at_call 84; ((with_reducible refine HTM.out.mono ?_); rintro e w3 ⟨rfl,hF3,_⟩))
        go_ret
        exact ⟨by rw [hres.out]; rfl,HF2.out.trans hF3,fun h => by rw [hres.out] at h; cases h⟩
       ·have hgt:goodTs D (d + 1) args = true /\ (nodesTs args:Int) <= l - 1:=by simpa using HOK.out.symm
        obtain ⟨l1,hl1⟩:∃ l1,l1 = l - 1 - (nodesTs args:Int):=⟨_,rfl⟩
        have HR3:Hid (R = (goodFs D (d + 1) subs && decide ((nodesL subs:Int) <= l1))):=hid (by
         rw [HR2.out,hgt.1]
         have:=HN1.out
         have:decide ((N:Int) <= l) = decide ((nodesL subs:Int) <= l1):=by
          by_cases h:(nodesL subs:Int) <= l1
          ·rw [decide_eq_true h,decide_eq_true (by omega)]
          ·rw [decide_eq_false h,decide_eq_false (by omega)]
         rw [this]; simp)
        have HL1:=hid (show 0 <= l1 /\ l1 <= 9223372036854775807 by have:=HL.out; omega)
        have HL1E:=hid hl1
        clear hgt hl1
        go_upto_region 12 with (go_at_call 84; ((with_reducible refine HTM.out.mono ?_); rintro e w3 ⟨rfl,hF3,hJ3⟩))
        have HJ3:Hid (JB w3 B l1 D):=hid (by rw [HL1E.out]; exact hJ3 trivial)
        have g3:=HK.blk_cell (HBZ.out _ hF3) 3
        have HF3:=hid (HF2.out.trans hF3)
        clear hJ3 hF3 f0 f2
        have HLN:Hid (sn <= 9223372036854775807):=hid (by rw [HSN.out]; exact szF_len HSZ.out)
        have hsn6:=HLN.out
        go_wp2_with (fail)
        go_loopw [79] (fun i wr => ∃ k:Nat,k <= sn /\ i = .int .i64 k /\ FJ B w wr /\ JB wr B (l1 - nodesL (subs.take k)) D /\ goodFs D (d + 1) (subs.take k) = true /\ (nodesL (subs.take k):Int) <= l1) (fun i _ => sn - (intOf i).toNat)
        case atStart => exact ⟨0,by omega,rfl,HF3.out,by simp [nodesL]; exact HJ3.out,rfl,by simp [nodesL]; exact HL1.out.1⟩
        case round =>
         obtain ⟨k,hk,rfl,hF,hJk,hgk,hlk⟩:=hrel
         by_cases hkn:(k:Int) < (sn:Int)
         ·have b0:(0:Int) <= (k:Int):=by omega
          obtain ⟨t,ht⟩:∃ t,subs[k]? = some t:=⟨_,List.getElem?_eq_getElem (by rw [<- HSN.out]; omega)⟩
          obtain ⟨g,o,rfl⟩:=HS.out.pos (show 0 < sn by omega)
          obtain ⟨a,s,c0,c1,c2,c3,hta,hts,hto,hz⟩:=fs_at (HS.out.turn (fj_turn hF HN0.out)) ht
          have hsp:=split_at ht
          have hNs:nodesL subs = nodesL (subs.take k) + (nodesF t + nodesL (subs.drop (k + 1))):=by conv => lhs; rw [hsp]; rw [nodesL_append,nodesL_append]; simp [nodesL]
          have hGs:goodFs D (d + 1) subs = (goodFs D (d + 1) (subs.take k) && (goodF D (d + 1) t && goodFs D (d + 1) (subs.drop (k + 1)))):=by conv => lhs; rw [hsp]; rw [goodFs_append,goodFs_append]; simp [goodFs]
          have hN1:nodesL (subs.take (k + 1)) = nodesL (subs.take k) + nodesF t:=by rw [take_one ht,nodesL_append]; simp [nodesL]
          have hG1:goodFs D (d + 1) (subs.take (k + 1)) = (goodFs D (d + 1) (subs.take k) && goodF D (d + 1) t):=by rw [take_one ht,goodFs_append]; simp [goodFs]
          obtain ⟨m,hm⟩:∃ m,m = nodesL (subs.take k):=⟨_,rfl⟩
          rw [<- hm] at hJk hlk hNs hN1
          rw [hgk,Bool.true_and] at hGs hG1
          have hih:=fun (o:Obj) => HIH.out t (List.mem_of_getElem? ht) (wr.alloc o) B n0 (l1 - m) D (d + 1) a s (HK.blk_alloc hJk o) (HRW.out.turn ((hF.trans ((HK.Frm.refl _ wr).alloc o)).block 1 HRW.out.pos (Ne.symm HB0.out))) HB0.out (by have:=HL1.out; omega) (by have:=HD.out; have:=HN1.out; have:=h12.out; omega) (szFs_mem (szF_subs HSZ.out) (List.mem_of_getElem? ht)) (Nat.le_trans HN0.out (Nat.le_trans hF.size (by simp))) (hta.turn fun j hj => ⟨hj,Below.heap_alloc _ _ _ (Nat.lt_of_lt_of_le hj.2 (Nat.le_trans HN0.out hF.size))⟩) (hts.turn fun j hj => ⟨hj,Below.heap_alloc _ _ _ (Nat.lt_of_lt_of_le hj.2 (Nat.le_trans HN0.out hF.size))⟩) hto hz
          obtain ⟨ok,hok⟩:∃ ok,ok = (goodF D (d + 1) t && decide ((nodesF t:Int) <= l1 - m)):=⟨_,rfl⟩
          rw [<- hok] at hih
          unfold RetJ at hih
          obtain ⟨nt,hnt⟩:∃ nt,nt = nodesF t:=⟨_,rfl⟩
          rw [<- hnt] at hih hok hNs hN1
          obtain ⟨gt,hgt⟩:∃ gt,gt = goodF D (d + 1) t:=⟨_,rfl⟩
          rw [<- hgt] at hok hGs hG1
          clear hnt hgt hsp
          obtain ⟨top,tname,targs,tsubs⟩:=t
          obtain ⟨ta,tn,tc⟩:=a
          obtain ⟨ua,un,uc⟩:=s
          simp only [FR.Fm.op,FR.Fm.name,SL.v] at c0 c1 c2 c3 hih
          rw [<- HW.out] at hih
          have HIHC:=hid hih
          have HF:=hid hF
          have HM:=hid hm
          have HOK:=hid hok
          have HNS:=hid hNs
          have HGS:=hid hGs
          have HN1:=hid hN1
          have HG1:=hid hG1
          have HLK:=hid hlk
          clear hih hF hm hok hNs hGs hN1 hG1 hlk hta hts hto hz hJk hgk ht
          cases ok
          ·have hfin:Hid (R = false):=hid (by
            rw [HR3.out,HGS.out,HNS.out]
            have h:=HOK.out
            rcases gt with _ | _
            ·rfl
            ·have h2:¬ (nt:Int) <= l1 - m:=by simpa using h.symm
             rw [decide_eq_false (by omega)]; simp)
           go_wp2_with (go_at_call 51; ((with_reducible refine (HIHC.out _).mono ?_); rintro e w4 ⟨rfl,hF1,_⟩))
           go_ret
           exact ⟨by rw [hfin.out]; rfl,HF.out.trans (((HK.Frm.refl _ wr).alloc _).trans hF1),fun h => by rw [hfin.out] at h; cases h⟩
          ·go_wp2_with (go_at_call 51; ((with_reducible refine (HIHC.out _).mono ?_); rintro e w4 ⟨rfl,hF1,hJ1⟩))
           have HJ1:=hid hJ1
           clear hJ1
           go_roundw
           case rel =>
            have h2:gt = true /\ (nt:Int) <= l1 - m:=by simpa using HOK.out.symm
            have h3:=HJ1.out trivial
            refine ⟨k + 1,by omega,by go_num,HF.out.trans (((HK.Frm.refl _ wr).alloc _).trans hF1),?_,by rw [HG1.out]; exact h2.1,by rw [HN1.out]; omega⟩
            rw [HN1.out]
            rw [show l1 - ((m + nt:Nat):Int) = l1 - m - nt by omega]
            exact h3
           case measure => simp [intOf]; omega
         ·obtain rfl:k = sn:=by omega
          have htk:subs.take k = subs:=List.take_of_length_le (by rw [HSN.out]; exact Nat.le_refl _)
          rw [htk] at hJk hgk hlk
          have HJK:=hid hJk
          have HF:=hid hF
          have HE:=hid (show R = true by rw [HR3.out,hgk,decide_eq_true hlk]; rfl)
          clear hJk hgk hF htk hlk
          go_wp2_with (fail)
          go_ret
          exact ⟨by rw [HE.out]; rfl,HF.out,fun _ => by
           have:=HJK.out
           rw [HL1E.out] at this
           rw [HN1.out,show l - ((1 + nodesTs args + nodesL subs:Nat):Int) = l - 1 - (nodesTs args:Int) - (nodesL subs:Int) by omega]
           exact this⟩
      ·have a2:((sn:Int) != (kb:Int)) = true:=by simp; omega
       have a2':¬ (sn:Int) = (kb:Int):=by omega
       have hres:Hid (R = false):=hid (by rw [HR1.out,decide_eq_false (show ¬ subs.length = kb by rw [<- HSN.out]; exact hsl)]; simp)
       clear hsl
       go_wp2_with (go_at_call 82; ((with_reducible refine (HNM.out _).mono ?_); rintro e w2 ⟨rfl,hB2⟩; have r3:=HK.blk_cell (HRX.out _ _ hB2) 3; have r4:=HK.blk_cell (HRX.out _ _ hB2) 4; have d2:=HK.blk_cell (HBY.out _ _ hB2) 2; have d3:=HK.blk_cell (HBY.out _ _ hB2) 3))
       go_ret
       exact ⟨by rw [hres.out]; rfl,HF1.out.trans (((HK.Frm.refl _ w1).alloc _).trans (frm_below hB2)),fun h => by rw [hres.out] at h; cases h⟩
     ·have a1:(ka:Int) < (an:Int):=by omega
      have hres:Hid (R = false):=hid (by rw [HR1.out,decide_eq_false (show ¬ args.length <= ka by rw [<- HAN.out]; exact hal)]; simp)
      clear hal
      go_wp2_with (go_at_call 82; ((with_reducible refine (HNM.out _).mono ?_); rintro e w2 ⟨rfl,hB2⟩; have r3:=HK.blk_cell (HRX.out _ _ hB2) 3; have r4:=HK.blk_cell (HRX.out _ _ hB2) 4; have d2:=HK.blk_cell (HBY.out _ _ hB2) 2; have d3:=HK.blk_cell (HBY.out _ _ hB2) 3))
      go_ret
      exact ⟨by rw [hres.out]; rfl,HF1.out.trans (((HK.Frm.refl _ w1).alloc _).trans (frm_below hB2)),fun h => by rw [hres.out] at h; cases h⟩
  ·have o1:¬ (op:Int) < 17:=by omega
   have o2:(17:Int) <= (op:Int):=by omega
   have hres:Hid (R = false):=hid (by
    have:rR op = false:=by unfold rR; simp; omega
    rw [HR.out,this]; simp)
   clear h17
   go_enter Tryz.func51,Tryz.ntmps51
   go_wp2_with (go_at_call 81; ((with_reducible refine (HND.out _).mono ?_); rintro e w1 ⟨rfl,hJ1,hF1⟩; have c0:=HK.blk_cell (HBX.out _ _ hF1) 0))
   go_ret
   exact ⟨by rw [hres.out]; rfl,(HF0.out _).trans hF1,fun h => by rw [hres.out] at h; cases h⟩
end Go.Proofs.YtdobflpbkfkmgaaGreatDoor
namespace Go.Proofs.YtdobflpbkfkmgaaGreatDoor
open Go.RowKit Go.HK Go.FR Lib
set_option linter.unusedVariables false
set_option linter.unusedSimpArgs false
set_option linter.unusedSectionVars false
set_option maxRecDepth 100000 in
set_option maxHeartbeats 2000000 in
theorem form_meta (op:Nat) (nm:ByteArray) (args:List Tm) (subs:List Fm) (ho:op = 15 ∨ op = 16) (w:World) (B n0:Nat) (l:Int) (D:Dp) (d:Nat) (av sv:SL) (hJ:JB w B l D) (hrw:IsRows w) (hB0:B ≠ 1) (hl:0 <= l /\ l <= 9223372036854775807) (hd:(d <= 1000000 /\ (D.n < 1000000 ∨ d + nodesF (.mk op nm args subs) <= 1000000))) (hsz:szF (.mk op nm args subs)) (hn0:n0 <= w.heap.size) (hT:IsTs (SJ B n0) w av args) (hS:IsFs (SJ B n0) w sv subs) (hz:nm.size <= maxLen) (hds:D.s = true) :
  Calls Tryz.prog 51 #[.pointer (some ⟨B,0,none⟩),.agg #[.int .u8 (op:Int),.string nm,av.v,sv.v],.int .i64 (d:Int)] w (RetJ w B l D (nodesF (.mk op nm args subs)) (goodF D d (.mk op nm args subs) && decide ((nodesF (.mk op nm args subs):Int) <= l))):=by
 obtain ⟨aa,an,ac⟩:=av
 obtain ⟨sa,sn,sc⟩:=sv
 simp only [SL.v]
 have HAN:Hid (an = args.length):=hid hT.len
 have HSN:Hid (sn = subs.length):=hid hS.len
 obtain ⟨N,hN⟩:∃ N,N = nodesF (.mk op nm args subs):=⟨_,rfl⟩
 have HN1:Hid (N = 1 + nodesTs args + nodesL subs):=hid (by rw [hN]; unfold nodesF; rfl)
 obtain ⟨R,hR⟩:∃ R,R = (goodF D d (.mk op nm args subs) && decide ((N:Int) <= l)):=⟨_,rfl⟩
 rw [<- hN,<- hR]
 rw [<- hN] at hd
 obtain ⟨ka,hka⟩:∃ r,r = rA op:=⟨_,rfl⟩
 have hka4:ka <= 4:=by rw [hka]; unfold rA; split <;> (try split) <;> omega
 have o0:rR op = false /\ rS op = true /\ rN op = 3 /\ rB op = 0 /\ op < 17:=by rcases ho with rfl | rfl <;> decide
 have HR:Hid (R = (decide (d <= D.n) && namedB 3 nm && (!decide (op = 16) || instB args) && decide (args.length <= ka) && decide (subs.length = 0) && goodTs D (d + 1) args && goodFs D (d + 1) subs && decide ((N:Int) <= l))):=hid (by
  rw [hR]; unfold goodF
  rw [o0.1,o0.2.1,o0.2.2.1,o0.2.2.2.1,hds,hka]; simp)
 have HKA:=hid hka
 have HO:=hid ho
 have HO0:=hid o0
 have HDS:=hid hds
 have hop:op < 256:=by omega
 clear hN hR hka ho o0 hds
 have hnd:=fun (o:Obj) => node_call (w.alloc o) B l D d (HK.blk_alloc hJ o) hl (by omega)
 obtain ⟨nb,hnb⟩:∃ nb,nb = (decide (1 <= l) && decide (d <= D.n)):=⟨_,rfl⟩
 rw [<- hnb] at hnd
 have HND:=hid hnd
 have HNB:=hid hnb
 clear hnd hnb
 have HBX:Hid (∀ (o:Obj) (W:World),FJ B (w.alloc o) W -> W.heap[w.heap.size]? = some o):=hid fun o W h => HK.Frm.heap h (HK.blk_new w o) (by have:=HK.blk_lt hJ; omega)
 have HF0:Hid (∀ o,FJ B w (w.alloc o)):=hid fun o => (HK.Frm.refl _ w).alloc _
 have HT:=hid hT
 have HS:=hid hS
 have HN0:=hid hn0
 have HZ:=hid hz
 have HD:=hid hd
 have HSZ:=hid hsz
 have HL:=hid hl
 have HRW:=hid hrw
 have HB0:=hid hB0
 clear hT hS hn0 hJ hz hd hsz hl hrw hB0
 cases nb
 ·have hfin:Hid (R = false):=hid (by
   rw [HR.out]
   have hnb:=HNB.out
   have hN1:=HN1.out
   rcases e1:decide (d <= D.n) with _ | _
   ·rfl
   ·have:¬ 1 <= l:=by intro h; rw [e1,decide_eq_true h] at hnb; cases hnb
    rw [decide_eq_false (show ¬ (N:Int) <= l by omega)]; simp)
  go_enter Tryz.func51,Tryz.ntmps51
  go_wp2_with (go_at_call 81; ((with_reducible refine (HND.out _).mono ?_); rintro e w1 ⟨rfl,_,hF1⟩))
  go_ret
  exact ⟨by rw [hfin.out]; rfl,(HF0.out _).trans hF1,fun h => by rw [hfin.out] at h; cases h⟩
 ·have h12:Hid (1 <= l /\ d <= D.n):=hid (by simpa using HNB.out.symm)
  have o1:(op:Int) < 17:=by have:=HO0.out; omega
  have o2:¬ (17:Int) <= (op:Int):=by omega
  go_enter Tryz.func51,Tryz.ntmps51
  go_upto_region 3 with (go_at_call 81; ((with_reducible refine (HND.out _).mono ?_); rintro e w1 ⟨rfl,hJ1,hF1⟩; have c0:=HK.blk_cell (HBX.out _ _ hF1) 0))
  have hb:=HBX.out _ _ hF1
  have HJ1:=hid hJ1
  have HF1:=hid ((HF0.out _).trans hF1)
  have hrw1:IsRows w1:=HRW.out.turn ((HF0.out _).trans hF1 |>.block 1 HRW.out.pos (Ne.symm HB0.out))
  obtain ⟨q0,q1,q2,q3,q4⟩:=hrw1 op HO0.out.2.2.2.2
  have c0:=HK.blk_cell hb 0
  have c1:=HK.blk_cell hb 1
  have cj:=hJ1.sch HDS.out
  have HB1:=hid hb
  clear hJ1 hF1 hb hrw1
  rw [HO0.out.1] at q0
  rw [HO0.out.2.1] at q1
  rw [HO0.out.2.2.1] at q2
  rw [<- HKA.out] at q3
  rw [HO0.out.2.2.2.1] at q4
  simp only [show ((3:Nat):Int) = 3 from rfl,show ((0:Nat):Int) = 0 from rfl] at q2 q4
  have HR1:Hid (R = (namedB 3 nm && (!decide (op = 16) || instB args) && decide (args.length <= ka) && decide (subs.length = 0) && goodTs D (d + 1) args && goodFs D (d + 1) subs && decide ((N:Int) <= l))):=hid (by rw [HR.out,decide_eq_true h12.out.2,Bool.true_and])
  have hbo:=HK.blk_alloc HB1.out (Obj.cells #[.bool false,.bool true,.int .u8 3,.int .i64 (ka:Int),.int .i64 0] 122)
  have ej:=(show JB _ B (l - 1) D from HK.blk_alloc HJ1.out (Obj.cells #[.bool false,.bool true,.int .u8 3,.int .i64 (ka:Int),.int .i64 0] 122)).sch HDS.out
  have e1:=HK.blk_cell hbo 1
  have e2:=HK.blk_cell hbo 2
  have e3:=HK.blk_cell hbo 3
  clear hbo
  have hnm:=fun W => named_call W 3 nm (by omega) HZ.out
  obtain ⟨vb,hvb⟩:∃ vb,vb = namedB 3 nm:=⟨_,rfl⟩
  rw [<- hvb] at hnm
  unfold RetW at hnm
  simp only [show ((3:Nat):Int) = 3 from rfl] at hnm
  have HNM:=hid hnm
  have HVB:=hid hvb
  have HRX:Hid (∀ (o:Obj) (W:World),Below (w1.alloc o).heap.size (w1.alloc o) W -> W.heap[w1.heap.size]? = some o):=hid fun o W h => (h.block _ (by simp)).trans (HK.blk_new w1 o)
  have HBY:Hid (∀ (o:Obj) (W:World),Below (w1.alloc o).heap.size (w1.alloc o) W -> W.heap[w.heap.size]? = some (Obj.cells #[Value.int IntKind.u8 ↑op,Value.string nm,Value.slice aa an ac,Value.slice sa sn sc] 28)):=hid fun o W h => (h.block _ (by have:=HK.blk_lt HB1.out; simp; omega)).trans (HK.blk_alloc HB1.out o)
  clear hnm hvb
  cases vb
  ·have hres:Hid (R = false):=hid (by rw [HR1.out,<- HVB.out]; simp)
   go_wp2_with (go_at_call 82; ((with_reducible refine (HNM.out _).mono ?_); rintro e w2 ⟨rfl,hB2⟩; have r3:=HK.blk_cell (HRX.out _ _ hB2) 3))
   go_ret
   exact ⟨by rw [hres.out]; rfl,HF1.out.trans (((HK.Frm.refl _ w1).alloc _).trans (frm_below hB2)),fun h => by rw [hres.out] at h; cases h⟩
  ·by_cases hal:an <= ka
   ·have a1:¬ (ka:Int) < (an:Int):=by omega
    by_cases hsl:sn = 0
    ·subst hsl
     have hsub:subs = []:=List.length_eq_zero_iff.1 HSN.out.symm
     have HR2:Hid (R = ((!decide (op = 16) || instB args) && (goodTs D (d + 1) args && decide ((N:Int) <= l))) /\ N = 1 + nodesTs args):=hid (by
      refine ⟨?_,by rw [HN1.out,hsub]; rfl⟩
      rw [HR1.out,<- HVB.out,decide_eq_true (show args.length <= ka by rw [<- HAN.out]; exact hal),hsub]; simp [goodFs,Bool.and_assoc])
     clear hal hsub
     go_upto_region 8 with (go_at_call 82; ((with_reducible refine (HNM.out _).mono ?_); rintro e w2 ⟨rfl,hB2⟩; have r3:=HK.blk_cell (HRX.out _ _ hB2) 3; have r4:=HK.blk_cell (HRX.out _ _ hB2) 4; have d2:=HK.blk_cell (HBY.out _ _ hB2) 2; have d3:=HK.blk_cell (HBY.out _ _ hB2) 3))
     have HF2:Hid (FJ B w w2):=hid (HF1.out.trans (((HK.Frm.refl _ w1).alloc _).trans (frm_below hB2)))
     have HJ2:Hid (JB w2 B (l - 1) D):=hid (JB.below (HK.blk_alloc HJ1.out _) hB2)
     have hb2:=HBY.out _ _ hB2
     have f0:=HK.blk_cell hb2 0
     have f2:=HK.blk_cell hb2 2
     have f3:=HK.blk_cell hb2 3
     have HB2:=hid hb2
     have HNE:Hid (w.heap.size ≠ B):=hid (by intro e; rw [e] at HB1; have:=HB1.out.symm.trans HJ1.out; simp at this)
     clear hb2 d2 d3 r3 r4 hB2 q0 q1 q2 q3 q4 c0 c1 cj e1 e2 e3 ej HNM HRX HBY
     by_cases h16:op = 16
     ·have h16':((op:Int) == 16) = true:=by simp; omega
      have hin:=inst_call (SJ B n0) w2 ⟨aa,an,ac⟩ args (HT.out.turn (fj_turn HF2.out HN0.out)) (fun k hk => Nat.lt_of_lt_of_le hk.2 (Nat.le_trans HN0.out HF2.out.size))
      obtain ⟨ib,hib⟩:∃ ib,ib = instB args:=⟨_,rfl⟩
      rw [<- hib] at hin
      unfold RetW at hin
      simp only [SL.v] at hin
      have HIN:=hid hin
      have HIB:=hid hib
      have H16:=hid h16
      have h16'':(op:Int) = 16:=by omega
      clear hin hib h16
      cases ib
      ·have hres:Hid (R = false):=hid (by rw [HR2.out.1,<- HIB.out,H16.out]; simp)
       go_wp2_with (go_at_call 83; ((with_reducible refine HIN.out.mono ?_); rintro e w3 ⟨rfl,hB3⟩))
       go_ret
       exact ⟨by rw [hres.out]; rfl,HF2.out.trans (frm_below hB3),fun h => by rw [hres.out] at h; cases h⟩
      ·have HR3:Hid (R = (goodTs D (d + 1) args && decide ((N:Int) <= l)) /\ N = 1 + nodesTs args):=hid ⟨by rw [HR2.out.1,<- HIB.out]; simp,HR2.out.2⟩
       go_upto_region 10 with (go_at_call 83; ((with_reducible refine HIN.out.mono ?_); rintro e w3 ⟨rfl,hB3⟩))
       have HF3:Hid (FJ B w w3):=hid (HF2.out.trans (frm_below hB3))
       have HJ3:Hid (JB w3 B (l - 1) D):=hid (HJ2.out.below hB3)
       have HB3:=hid ((hB3.block _ (HK.blk_lt HB2.out)).trans HB2.out)
       clear hB3 f0 f2 f3
       have f2:=HK.blk_cell HB3.out 2
       have f3:=HK.blk_cell HB3.out 3
       have hih:=terms_ok args w3 B n0 (l - 1) D (d + 1) ⟨aa,an,ac⟩ HJ3.out (by have:=HL.out; have:=h12.out; omega) (by have:=HD.out; have:=HN1.out; have:=h12.out; omega) (szF_args HSZ.out) (Nat.le_trans HN0.out HF3.out.size) (HT.out.turn (fj_turn HF3.out HN0.out))
       obtain ⟨ok,hok⟩:∃ ok,ok = (goodTs D (d + 1) args && decide ((nodesTs args:Int) <= l - 1)):=⟨_,rfl⟩
       have hres:Hid (R = ok):=hid (by
        rw [HR3.out.1,hok]
        have:decide ((N:Int) <= l) = decide ((nodesTs args:Int) <= l - 1):=by
         have:=HR3.out.2
         by_cases h:(nodesTs args:Int) <= l - 1
         ·rw [decide_eq_true h,decide_eq_true (by omega)]
         ·rw [decide_eq_false h,decide_eq_false (by omega)]
        rw [this])
       rw [<- hok] at hih
       unfold RetJ at hih
       simp only [SL.v] at hih
       have hw:wrap64 ((d:Int) + 1) = ((d + 1:Nat):Int):=by have hd1:=HD.out.1; rw [IntWalk.wrap64_in ((d:Int) + 1) (by omega)]; omega
       rw [<- hw] at hih
       have HTM:=hid hih
       have HBZ:Hid (∀ W,FJ B w3 W -> W.heap[w.heap.size]? = some (Obj.cells #[Value.int IntKind.u8 ↑op,Value.string nm,Value.slice aa an ac,Value.slice sa 0 sc] 28)):=hid fun W h => HK.Frm.heap h HB3.out HNE.out
       clear hih hok hw
       cases ok
       ·go_wp2_with (go_at_call 84; ((with_reducible refine HTM.out.mono ?_); rintro e w4 ⟨rfl,hF4,_⟩))
        go_ret
        exact ⟨by rw [hres.out]; rfl,HF3.out.trans hF4,fun h => by rw [hres.out] at h; cases h⟩
       ·go_upto_region 12 with (go_at_call 84; ((with_reducible refine HTM.out.mono ?_); rintro e w4 ⟨rfl,hF4,hJ4⟩))
        have HJ4:Hid (JB w4 B (l - 1 - (nodesTs args:Int)) D):=hid (hJ4 trivial)
        have g3:=HK.blk_cell (HBZ.out _ hF4) 3
        have HF4:=hid (HF3.out.trans hF4)
        clear hJ4 hF4 f2 f3
        go_wp2_with (fail)
        go_loopw [79] (fun i wr => i = .int .i64 0 /\ wr = w4) (fun i _ => 0)
        case atStart => exact ⟨rfl,rfl⟩
        case round =>
         obtain ⟨rfl,rfl⟩:=hrel
         go_wp2_with (fail)
         go_ret
         exact ⟨by rw [hres.out]; rfl,HF4.out,fun _ => by
          have:=HJ4.out
          rw [HR3.out.2,show l - ((1 + nodesTs args:Nat):Int) = l - 1 - (nodesTs args:Int) by omega]
          exact this⟩
     ·have h16':((op:Int) == 16) = false:=by simp; omega
      have h16'':¬ (op:Int) = 16:=by omega
      have HR3:Hid (R = (goodTs D (d + 1) args && decide ((N:Int) <= l)) /\ N = 1 + nodesTs args):=hid ⟨by rw [HR2.out.1,decide_eq_false h16]; simp,HR2.out.2⟩
      clear h16
      go_upto_region 10 with (fail)
      obtain ⟨w3,hw3⟩:∃ w3,w3 = w2:=⟨_,rfl⟩
      have HF3:Hid (FJ B w w3):=hid (by rw [hw3]; exact HF2.out)
      have HJ3:Hid (JB w3 B (l - 1) D):=hid (by rw [hw3]; exact HJ2.out)
      have HB3:Hid (w3.heap[w.heap.size]? = some (Obj.cells #[Value.int IntKind.u8 ↑op,Value.string nm,Value.slice aa an ac,Value.slice sa 0 sc] 28)):=hid (by rw [hw3]; exact HB2.out)
      rw [<- hw3]
      clear hw3 f0 f2 f3
      have f2:=HK.blk_cell HB3.out 2
      have f3:=HK.blk_cell HB3.out 3
      have hih:=terms_ok args w3 B n0 (l - 1) D (d + 1) ⟨aa,an,ac⟩ HJ3.out (by have:=HL.out; have:=h12.out; omega) (by have:=HD.out; have:=HN1.out; have:=h12.out; omega) (szF_args HSZ.out) (Nat.le_trans HN0.out HF3.out.size) (HT.out.turn (fj_turn HF3.out HN0.out))
      obtain ⟨ok,hok⟩:∃ ok,ok = (goodTs D (d + 1) args && decide ((nodesTs args:Int) <= l - 1)):=⟨_,rfl⟩
      have hres:Hid (R = ok):=hid (by
       rw [HR3.out.1,hok]
       have:decide ((N:Int) <= l) = decide ((nodesTs args:Int) <= l - 1):=by
        have:=HR3.out.2
        by_cases h:(nodesTs args:Int) <= l - 1
        ·rw [decide_eq_true h,decide_eq_true (by omega)]
        ·rw [decide_eq_false h,decide_eq_false (by omega)]
       rw [this])
      rw [<- hok] at hih
      unfold RetJ at hih
      simp only [SL.v] at hih
      have hw:wrap64 ((d:Int) + 1) = ((d + 1:Nat):Int):=by have hd1:=HD.out.1; rw [IntWalk.wrap64_in ((d:Int) + 1) (by omega)]; omega
      rw [<- hw] at hih
      have HTM:=hid hih
      have HBZ:Hid (∀ W,FJ B w3 W -> W.heap[w.heap.size]? = some (Obj.cells #[Value.int IntKind.u8 ↑op,Value.string nm,Value.slice aa an ac,Value.slice sa 0 sc] 28)):=hid fun W h => HK.Frm.heap h HB3.out HNE.out
      clear hih hok hw
      cases ok
      ·go_wp2_with (go_at_call 84; ((with_reducible refine HTM.out.mono ?_); rintro e w4 ⟨rfl,hF4,_⟩))
       go_ret
       exact ⟨by rw [hres.out]; rfl,HF3.out.trans hF4,fun h => by rw [hres.out] at h; cases h⟩
      ·go_upto_region 12 with (go_at_call 84; ((with_reducible refine HTM.out.mono ?_); rintro e w4 ⟨rfl,hF4,hJ4⟩))
       have HJ4:Hid (JB w4 B (l - 1 - (nodesTs args:Int)) D):=hid (hJ4 trivial)
       have g3:=HK.blk_cell (HBZ.out _ hF4) 3
       have HF4:=hid (HF3.out.trans hF4)
       clear hJ4 hF4 f2 f3
       go_wp2_with (fail)
       go_loopw [79] (fun i wr => i = .int .i64 0 /\ wr = w4) (fun i _ => 0)
       case atStart => exact ⟨rfl,rfl⟩
       case round =>
        obtain ⟨rfl,rfl⟩:=hrel
        go_wp2_with (fail)
        go_ret
        exact ⟨by rw [hres.out]; rfl,HF4.out,fun _ => by
         have:=HJ4.out
         rw [HR3.out.2,show l - ((1 + nodesTs args:Nat):Int) = l - 1 - (nodesTs args:Int) by omega]
         exact this⟩
    ·have a2:((sn:Int) != 0) = true:=by simp; omega
     have a2':¬ (sn:Int) = 0:=by omega
     have hres:Hid (R = false):=hid (by rw [HR1.out,decide_eq_false (show ¬ subs.length = 0 by rw [<- HSN.out]; exact hsl)]; simp)
     clear hsl
     go_wp2_with (go_at_call 82; ((with_reducible refine (HNM.out _).mono ?_); rintro e w2 ⟨rfl,hB2⟩; have r3:=HK.blk_cell (HRX.out _ _ hB2) 3; have r4:=HK.blk_cell (HRX.out _ _ hB2) 4; have d2:=HK.blk_cell (HBY.out _ _ hB2) 2; have d3:=HK.blk_cell (HBY.out _ _ hB2) 3))
     go_ret
     exact ⟨by rw [hres.out]; rfl,HF1.out.trans (((HK.Frm.refl _ w1).alloc _).trans (frm_below hB2)),fun h => by rw [hres.out] at h; cases h⟩
   ·have a1:(ka:Int) < (an:Int):=by omega
    have hres:Hid (R = false):=hid (by rw [HR1.out,decide_eq_false (show ¬ args.length <= ka by rw [<- HAN.out]; exact hal)]; simp)
    clear hal
    go_wp2_with (go_at_call 82; ((with_reducible refine (HNM.out _).mono ?_); rintro e w2 ⟨rfl,hB2⟩; have r3:=HK.blk_cell (HRX.out _ _ hB2) 3; have r4:=HK.blk_cell (HRX.out _ _ hB2) 4; have d2:=HK.blk_cell (HBY.out _ _ hB2) 2; have d3:=HK.blk_cell (HBY.out _ _ hB2) 3))
    go_ret
    exact ⟨by rw [hres.out]; rfl,HF1.out.trans (((HK.Frm.refl _ w1).alloc _).trans (frm_below hB2)),fun h => by rw [hres.out] at h; cases h⟩
theorem form_any (op:Nat) (nm:ByteArray) (args:List Tm) (subs:List Fm) (IH:∀ f ∈ subs,FormOk f):FormOk (.mk op nm args subs):=by
 intro w B n0 l D d av sv hJ hrw hB0 hl hd hsz hn0 hT hS hop hz
 simp only [FR.Fm.op,FR.Fm.name,FR.Fm.args,FR.Fm.subs] at hT hS hop hz ⊢
 by_cases h:D.s = true /\ (op = 15 ∨ op = 16)
 ·exact form_meta op nm args subs h.2 w B n0 l D d av sv hJ hrw hB0 hl hd hsz hn0 hT hS hz h.1
 ·exact form_of op nm args subs IH w B n0 l D d av sv hJ hrw hB0 hl hd hsz hn0 hT hS hop hz h
mutual
theorem form_ok:∀ f:Fm,FormOk f
 | .mk op nm args subs => form_any op nm args subs (forms_all subs)
theorem forms_all:∀ (l:List Fm),∀ f ∈ l,FormOk f
 | [],f,h => by cases h
 | u :: r,f,h => by
  rcases List.mem_cons.1 h with h | h
  ·rw [h]; exact form_ok u
  ·exact forms_all r f h
end
def rightF (f:Fm):Bool:=goodF ⟨40,false⟩ 1 f && decide ((nodesF f:Int) <= 400)
set_option maxRecDepth 100000 in
set_option maxHeartbeats 1000000 in
theorem right_call (w:World) (f:Fm) (av sv:SL) (hrw:IsRows w) (hN:szF f) (hT:IsTs (fun k => k < w.heap.size) w av f.args) (hS:IsFs (fun k => k < w.heap.size) w sv f.subs) (hop:f.op < 256) (hz:f.name.size <= maxLen) :
  Calls Tryz.prog 27 #[.agg #[.int .u8 (f.op:Int),.string f.name,av.v,sv.v]] w (RetW w (rightF f)):=by
 have hcall:=fun (o:Obj) => form_ok f ((w.alloc o).alloc (.cells #[.bool false,.int .i64 400,.int .i64 40] 91)) (w.heap.size + 1) w.heap.size 400 ⟨40,false⟩ 1 av sv
  (by unfold JB; have:=HK.blk_new (w.alloc o) (.cells #[.bool false,.int .i64 400,.int .i64 40] 91); simpa using this)
  (hrw.turn (by rw [Below.heap_alloc _ _ _ (by have:=hrw.pos; simp; omega),Below.heap_alloc _ _ _ hrw.pos])) (by have:=hrw.pos; omega) (by omega) (by simp) hN (by simp; omega)
  (hT.turn fun k hk => ⟨⟨by omega,hk⟩,by rw [Below.heap_alloc _ _ _ (by simp; omega),Below.heap_alloc _ _ _ hk]⟩)
  (hS.turn fun k hk => ⟨⟨by omega,hk⟩,by rw [Below.heap_alloc _ _ _ (by simp; omega),Below.heap_alloc _ _ _ hk]⟩) hop hz
 have HB:Hid (∀ (o:Obj) (W:World),FJ (w.heap.size + 1) ((w.alloc o).alloc (.cells #[.bool false,.int .i64 400,.int .i64 40] 91)) W -> Below w.heap.size w W):=hid fun o W h => (((Below.refl _ w).alloc (Nat.le_refl _) _).alloc (by simp) _).trans (h.below (by simp; omega) (fun k hk => by omega))
 unfold rightF
 obtain ⟨ok,hok⟩:∃ ok,ok = (goodF ⟨40,false⟩ 1 f && decide ((nodesF f:Int) <= 400)):=⟨_,rfl⟩
 rw [<- hok] at hcall ⊢
 unfold RetJ at hcall
 obtain ⟨op,nm,args,subs⟩:=f
 obtain ⟨aa,an,ac⟩:=av
 obtain ⟨sa,sn,sc⟩:=sv
 simp only [FR.Fm.op,FR.Fm.name,SL.v,show ((1:Nat):Int) = 1 from rfl,show ((40:Nat):Int) = 40 from rfl] at hcall ⊢
 have HC:=hid hcall
 clear hcall hok hrw hN hT hS hop hz
 go_enter Tryz.func27,Tryz.ntmps27
 go_wp2_with (go_at_call 51; ((with_reducible refine (HC.out _).mono ?_); rintro e w1 ⟨rfl,hF,_⟩))
 go_ret
 exact ⟨rfl,HB.out _ _ hF⟩
def schF (f:Fm):Bool:=goodF ⟨40,true⟩ 1 f && decide ((nodesF f:Int) <= 400)
set_option maxRecDepth 100000 in
set_option maxHeartbeats 1000000 in
theorem schema_call (w:World) (f:Fm) (av sv:SL) (hrw:IsRows w) (hN:szF f) (hT:IsTs (fun k => k < w.heap.size) w av f.args) (hS:IsFs (fun k => k < w.heap.size) w sv f.subs) (hop:f.op < 256) (hz:f.name.size <= maxLen) :
  Calls Tryz.prog 29 #[.agg #[.int .u8 (f.op:Int),.string f.name,av.v,sv.v]] w (RetW w (schF f)):=by
 have hcall:=fun (o:Obj) => form_ok f ((w.alloc o).alloc (.cells #[.bool true,.int .i64 400,.int .i64 40] 91)) (w.heap.size + 1) w.heap.size 400 ⟨40,true⟩ 1 av sv
  (by unfold JB; have:=HK.blk_new (w.alloc o) (.cells #[.bool true,.int .i64 400,.int .i64 40] 91); simpa using this)
  (hrw.turn (by rw [Below.heap_alloc _ _ _ (by have:=hrw.pos; simp; omega),Below.heap_alloc _ _ _ hrw.pos])) (by have:=hrw.pos; omega) (by omega) (by simp) hN (by simp; omega)
  (hT.turn fun k hk => ⟨⟨by omega,hk⟩,by rw [Below.heap_alloc _ _ _ (by simp; omega),Below.heap_alloc _ _ _ hk]⟩)
  (hS.turn fun k hk => ⟨⟨by omega,hk⟩,by rw [Below.heap_alloc _ _ _ (by simp; omega),Below.heap_alloc _ _ _ hk]⟩) hop hz
 have HB:Hid (∀ (o:Obj) (W:World),FJ (w.heap.size + 1) ((w.alloc o).alloc (.cells #[.bool true,.int .i64 400,.int .i64 40] 91)) W -> Below w.heap.size w W):=hid fun o W h => (((Below.refl _ w).alloc (Nat.le_refl _) _).alloc (by simp) _).trans (h.below (by simp; omega) (fun k hk => by omega))
 unfold schF
 obtain ⟨ok,hok⟩:∃ ok,ok = (goodF ⟨40,true⟩ 1 f && decide ((nodesF f:Int) <= 400)):=⟨_,rfl⟩
 rw [<- hok] at hcall ⊢
 unfold RetJ at hcall
 obtain ⟨op,nm,args,subs⟩:=f
 obtain ⟨aa,an,ac⟩:=av
 obtain ⟨sa,sn,sc⟩:=sv
 simp only [FR.Fm.op,FR.Fm.name,SL.v,show ((1:Nat):Int) = 1 from rfl,show ((40:Nat):Int) = 40 from rfl] at hcall ⊢
 have HC:=hid hcall
 clear hcall hok hrw hN hT hS hop hz
 go_enter Tryz.func29,Tryz.ntmps29
 go_wp2_with (go_at_call 51; ((with_reducible refine (HC.out _).mono ?_); rintro e w1 ⟨rfl,hF,_⟩))
 go_ret
 exact ⟨rfl,HB.out _ _ hF⟩
def rightT (t:Tm):Bool:=goodT ⟨9223372036854775807,false⟩ 1 t
set_option maxRecDepth 100000 in
set_option maxHeartbeats 1000000 in
theorem termr_call (w:World) (t:Tm) (sv:SL) (hN:nodesT t <= 900000) (hT:IsTs (fun k => k < w.heap.size) w sv t.args) (hz:t.name.size <= maxLen) :
  Calls Tryz.prog 32 #[.agg #[.bool t.var,.string t.name,sv.v]] w (RetW w (rightT t)):=by
 have hcall:=fun (o:Obj) => term_ok t ((w.alloc o).alloc (.cells #[.bool false,.int .i64 9223372036854775807,.int .i64 9223372036854775807] 91)) (w.heap.size + 1) w.heap.size 9223372036854775807 ⟨9223372036854775807,false⟩ 1 sv
  (by unfold JB; have:=HK.blk_new (w.alloc o) (.cells #[.bool false,.int .i64 9223372036854775807,.int .i64 9223372036854775807] 91); simpa using this)
  (by omega) (by omega) (szT_of hN) (by simp; omega)
  (hT.turn fun k hk => ⟨⟨by omega,hk⟩,by rw [Below.heap_alloc _ _ _ (by simp; omega),Below.heap_alloc _ _ _ hk]⟩) hz
 have HB:Hid (∀ (o:Obj) (W:World),FJ (w.heap.size + 1) ((w.alloc o).alloc (.cells #[.bool false,.int .i64 9223372036854775807,.int .i64 9223372036854775807] 91)) W -> Below w.heap.size w W):=hid fun o W h => (((Below.refl _ w).alloc (Nat.le_refl _) _).alloc (by simp) _).trans (h.below (by simp; omega) (fun k hk => by omega))
 unfold rightT
 obtain ⟨ok,hok⟩:∃ ok,ok = (goodT ⟨9223372036854775807,false⟩ 1 t):=⟨_,rfl⟩
 rw [<- hok,decide_eq_true (show ((nodesT t:Nat):Int) <= 9223372036854775807 by omega),Bool.and_true] at hcall
 rw [<- hok]
 unfold RetJ at hcall
 obtain ⟨var,nm,args⟩:=t
 obtain ⟨sa,sn,sc⟩:=sv
 simp only [FR.Tm.var,FR.Tm.name,SL.v,show ((1:Nat):Int) = 1 from rfl] at hcall ⊢
 have HC:=hid hcall
 clear hcall hok hN hT hz
 go_enter Tryz.func32,Tryz.ntmps32
 go_wp2_with (go_at_call 61; ((with_reducible refine (HC.out _).mono ?_); rintro e w1 ⟨rfl,hF,_⟩))
 go_ret
 exact ⟨rfl,HB.out _ _ hF⟩
end Go.Proofs.YtdobflpbkfkmgaaGreatDoor
