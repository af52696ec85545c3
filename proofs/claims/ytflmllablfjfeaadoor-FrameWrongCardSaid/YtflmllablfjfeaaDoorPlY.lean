import Derived.Test.YtflmllablfjfeaaDoorPlZ
namespace Go.FR
open Go
set_option linter.unusedVariables false
set_option linter.unusedSimpArgs false
set_option linter.unusedSectionVars false
section
variable {force:Bool} {rel:List Nat} {look:ByteArray -> Option Nat} (hr:FrOk rel) (hlk:LookOk rel.length look)
include hr hlk
end
section
variable {rel:List Nat} {look:ByteArray -> Option Nat} (hr:FrOk rel) (hlk:LookOk rel.length look)
include hr hlk
end
end Go.FR
namespace Go.FR
open Go
set_option linter.unusedVariables false
set_option linter.unusedSimpArgs false
set_option linter.unusedSectionVars false
def transK (rel:List Nat) (w:Nat):Nat -> Nat
 | 0 => 0
 | k + 1 => if (rel.getD w 0).testBit k = true then transK rel w k ||| rel.getD k 0 else transK rel w k
theorem transK_test (rel:List Nat) (w v:Nat):∀ k,(transK rel w k).testBit v = true ↔ ∃ u,u < k /\ (rel.getD w 0).testBit u = true /\ (rel.getD u 0).testBit v = true
 | 0 => by simp [transK]
 | k + 1 => by
  have ih:=transK_test rel w v k
  unfold transK
  by_cases h:(rel.getD w 0).testBit k = true
  ·rw [if_pos h,Nat.testBit_or,Bool.or_eq_true,ih]
   constructor
   ·rintro (⟨u,h1,h2⟩ | h1)
    ·exact ⟨u,by omega,h2⟩
    ·exact ⟨k,by omega,h,h1⟩
   ·rintro ⟨u,h1,h2,h3⟩
    by_cases e:u = k
    ·subst e; exact .inr h3
    ·exact .inl ⟨u,by omega,h2,h3⟩
  ·rw [if_neg h,ih]
   constructor
   ·rintro ⟨u,h1,h2⟩; exact ⟨u,by omega,h2⟩
   ·rintro ⟨u,h1,h2,h3⟩
    by_cases e:u = k
    ·subst e; exact absurd h2 h
    ·exact ⟨u,by omega,h2,h3⟩
def symK (rel:List Nat) (w k:Nat):Nat:=maskN k fun u => (rel.getD u 0).testBit w
def need1 (c w:Nat):Nat:=if c.testBit 0 = true then 1 <<< w else 0
def need2 (c:Nat) (rel:List Nat) (w:Nat):Nat:=if c.testBit 1 = true then need1 c w ||| transK rel w rel.length else need1 c w
def need3 (c:Nat) (rel:List Nat) (w:Nat):Nat:=if c.testBit 2 = true then need2 c rel w ||| symK rel w rel.length else need2 c rel w
def needK (c:Nat) (rel:List Nat) (w k:Nat):Nat:=if k = 0 then 0 else if k = 1 then need1 c w else if k = 2 then need2 c rel w else need3 c rel w
def lackS (c:Nat) (rel:List Nat) (w:Nat):Nat:=if c = 0 then 0 else andn (needK c rel w 3) (rel.getD w 0)
theorem need_test (c:Nat) (rel:List Nat) (w v:Nat):(needK c rel w 3).testBit v = true ↔ (c.testBit 0 = true /\ v = w) ∨ (c.testBit 1 = true /\ (transK rel w rel.length).testBit v = true) ∨ (c.testBit 2 = true /\ (symK rel w rel.length).testBit v = true):=by
 have e1:(need1 c w).testBit v = true ↔ c.testBit 0 = true /\ v = w:=by
  unfold need1
  split
  ·rename_i h; rw [shl_test,decide_eq_true_iff]; simp [h]
  ·rename_i h; simp [h]
 have e2:(need2 c rel w).testBit v = true ↔ (c.testBit 0 = true /\ v = w) ∨ (c.testBit 1 = true /\ (transK rel w rel.length).testBit v = true):=by
  unfold need2
  split
  ·rename_i h; rw [Nat.testBit_or,Bool.or_eq_true,e1]; simp [h]
  ·rename_i h; rw [e1]; simp [h]
 show (need3 c rel w).testBit v = true ↔ _
 unfold need3
 split
 ·rename_i h; rw [Nat.testBit_or,Bool.or_eq_true,e2]; simp [h,or_assoc]
 ·rename_i h; rw [e2]; simp [h]
def FitsAt (c:Nat) (rel:List Nat) (w:Nat):Prop :=
 (c.testBit 0 = true -> (rel.getD w 0).testBit w = true) /\
 (c.testBit 1 = true -> ∀ u v,(rel.getD w 0).testBit u = true -> (rel.getD u 0).testBit v = true -> (rel.getD w 0).testBit v = true) /\
 (c.testBit 2 = true -> ∀ u,(rel.getD u 0).testBit w = true -> (rel.getD w 0).testBit u = true)
def FitsP (c:Nat) (rel:List Nat):Prop:=∀ w,w < rel.length -> FitsAt c rel w
theorem transK_lt {rel:List Nat} (hr:FrOk rel) (w k:Nat):transK rel w k < 2 ^ rel.length:=lt_of_bits fun v hv => by
 rw [transK_test] at hv
 obtain ⟨u,_,_,h⟩:=hv
 exact (hr.see h).2
theorem need_lt {c:Nat} {rel:List Nat} (hr:FrOk rel) {w:Nat} (hw:w < rel.length):needK c rel w 3 < 2 ^ rel.length:=lt_of_bits fun v hv => by
 rw [need_test] at hv
 rcases hv with ⟨_,rfl⟩ | ⟨_,h⟩ | ⟨_,h⟩
 ·exact hw
 ·exact bits_lt (transK_lt hr _ _) h
 ·exact bits_lt (maskN_lt _ _) h
theorem lack_zero {c:Nat} {rel:List Nat} (hr:FrOk rel) {w:Nat} (hw:w < rel.length):lackS c rel w = 0 ↔ FitsAt c rel w:=by
 unfold lackS
 by_cases hc:c = 0
 ·subst hc
  simp [FitsAt]
 ·rw [if_neg hc]
  have h1:=need_lt (c:=c) hr hw
  have hp:=pow_le4 hr.len
  rw [andn_zero (by omega) (hr.lt32 w)]
  unfold FitsAt
  constructor
  ·intro h
   refine ⟨fun h0 => h w (by rw [need_test]; exact .inl ⟨h0,rfl⟩),fun h1 u v hu hv => h v (by rw [need_test]; exact .inr (.inl ⟨h1,by rw [transK_test]; exact ⟨u,(hr.see hu).2,hu,hv⟩⟩)),fun h2 u hu => h u (by rw [need_test]; exact .inr (.inr ⟨h2,by unfold symK; rw [maskN_test,hu,Bool.and_true]; exact decide_eq_true (hr.see hu).1⟩))⟩
  ·rintro ⟨h0,h1,h2⟩ v hv
   rw [need_test] at hv
   rcases hv with ⟨hc,rfl⟩ | ⟨hc,hv⟩ | ⟨hc,hv⟩
   ·exact h0 hc
   ·rw [transK_test] at hv
    obtain ⟨u,_,hu,hv⟩:=hv
    exact h1 hc u v hu hv
   ·unfold symK at hv
    rw [maskN_test,Bool.and_eq_true] at hv
    exact h2 hc v hv.2
theorem lack_bits {c:Nat} {rel:List Nat} (hr:FrOk rel) {w v:Nat} (hw:w < rel.length) (h:(lackS c rel w).testBit v = true):(needK c rel w 3).testBit v = true /\ (rel.getD w 0).testBit v = false:=by
 unfold lackS at h
 split at h
 ·simp at h
 ·have h1:=need_lt (c:=c) hr hw
  have hp:=pow_le4 hr.len
  rw [andn_test (by omega) (hr.lt32 w)] at h
  simpa using h
def SubR (a b:List Nat):Prop:=∀ w u,(a.getD w 0).testBit u = true -> (b.getD w 0).testBit u = true
theorem SubR.refl (a:List Nat):SubR a a:=fun _ _ h => h
theorem SubR.trans {a b c:List Nat} (h:SubR a b) (k:SubR b c):SubR a c:=fun w u x => k w u (h w u x)
theorem SubR.antisymm {a b:List Nat} (hl:a.length = b.length) (h:SubR a b) (k:SubR b a):a = b:=by
 apply List.ext_getElem hl
 intro i h1 h2
 have e1:a.getD i 0 = a[i]:=by rw [List.getD_eq_getElem?_getD,List.getElem?_eq_getElem h1]; rfl
 have e2:b.getD i 0 = b[i]:=by rw [List.getD_eq_getElem?_getD,List.getElem?_eq_getElem h2]; rfl
 apply Nat.eq_of_testBit_eq
 intro u
 rw [Bool.eq_iff_iff,<- e1,<- e2]
 exact ⟨h i u,k i u⟩
structure CloI (c:Nat) (rel cur:List Nat):Prop where
 len:cur.length = rel.length
 ok:FrOk cur
 sub:SubR rel cur
 least:∀ S:List Nat,S.length = rel.length -> FrOk S -> FitsP c S -> SubR rel S -> SubR cur S
theorem CloI.start {c:Nat} {rel:List Nat} (h:FrOk rel):CloI c rel rel:=⟨rfl,h,SubR.refl _,fun S _ _ _ h => h⟩
theorem getD_setD (l:List Nat) (w x i:Nat) (hw:w < l.length):(l.set w x).getD i 0 = if i = w then x else l.getD i 0:=by
 rw [List.getD_eq_getElem?_getD,List.getD_eq_getElem?_getD,List.getElem?_set]
 by_cases h:w = i
 ·subst h; simp [hw]
 ·have h2:¬ i = w:=fun e => h e.symm
  simp [h,h2]
theorem CloI.step {c:Nat} {rel cur:List Nat} (h:CloI c rel cur) {w:Nat} (hw:w < cur.length):CloI c rel (cur.set w (cur.getD w 0 ||| lackS c cur w)):=by
 have hn:=need_lt (c:=c) h.ok hw
 have hlk:lackS c cur w < 2 ^ cur.length:=by
  refine lt_of_bits fun v hv => ?_
  exact bits_lt hn (lack_bits h.ok hw hv).1
 have hcw:cur.getD w 0 < 2 ^ cur.length:=by
  have hx:cur[w]? = some (cur.getD w 0):=by rw [List.getD_eq_getElem?_getD,List.getElem?_eq_getElem hw]; rfl
  exact h.ok.lt w _ hx
 refine ⟨by rw [List.length_set]; exact h.len,⟨by rw [List.length_set]; exact h.ok.len,fun i s hs => ?_⟩,fun i u hu => ?_,fun S hl hS hf hs i u hu => ?_⟩
 ·rw [List.length_set]
  rw [List.getElem?_set] at hs
  split at hs
  ·first
    | (cases hs; exact Nat.or_lt_two_pow hcw hlk)
    | (
     split at hs
     ·cases hs; exact Nat.or_lt_two_pow hcw hlk
     ·cases hs)
  ·exact h.ok.lt i s hs
 ·rw [getD_setD _ _ _ _ hw]
  split
  ·rename_i e; subst e
   rw [Nat.testBit_or,h.sub _ u hu]; rfl
  ·exact h.sub i u hu
 ·have hb:=h.least S hl hS hf hs
  rw [getD_setD _ _ _ _ hw] at hu
  split at hu
  ·rename_i e; subst e
   rw [Nat.testBit_or,Bool.or_eq_true] at hu
   rcases hu with hu | hu
   ·exact hb _ _ hu
   ·have h2:=(lack_bits h.ok hw hu).1
    have hf:=hf i (by rw [hl,<- h.len]; exact hw)
    rw [need_test] at h2
    rcases h2 with ⟨hc,rfl⟩ | ⟨hc,hv⟩ | ⟨hc,hv⟩
    ·exact hf.1 hc
    ·rw [transK_test] at hv
     obtain ⟨x,_,h3,h4⟩:=hv
     exact hf.2.1 hc x u (hb _ _ h3) (hb _ _ h4)
    ·unfold symK at hv
     rw [maskN_test,Bool.and_eq_true] at hv
     exact hf.2.2 hc u (hb _ _ hv.2)
  ·exact hb i u hu
structure CloP (c:Nat) (rel out:List Nat):Prop where
 i:CloI c rel out
 fits:FitsP c out
theorem CloP.unique {c:Nat} {rel a b:List Nat} (h:CloP c rel a) (k:CloP c rel b):a = b :=
 SubR.antisymm (h.i.len.trans k.i.len.symm) (h.i.least b k.i.len k.i.ok k.fits k.i.sub) (k.i.least a h.i.len h.i.ok h.fits h.i.sub)
theorem or_gt {a b:Nat} (hb:b ≠ 0) (h:∀ u,b.testBit u = true -> a.testBit u = false):a < a ||| b:=by
 have h1:a <= a ||| b:=Nat.left_le_or
 rcases Nat.lt_or_ge a (a ||| b) with h2 | h2
 ·exact h2
 ·exfalso
  have e:a ||| b = a:=Nat.le_antisymm h2 h1
  apply hb
  apply Nat.eq_of_testBit_eq
  intro u
  rw [Nat.zero_testBit]
  rcases hu:b.testBit u with _ | _
  ·rfl
  ·have h3:=congrArg (fun x => Nat.testBit x u) e
   simp only [Nat.testBit_or,hu,Bool.or_true] at h3
   rw [h u hu] at h3; cases h3
theorem sum_set:∀ (l:List Nat) (w x:Nat),w < l.length -> (l.set w x).sum + l.getD w 0 = l.sum + x
 | [],w,x,h => by simp at h
 | y :: l,0,x,h => by simp; omega
 | y :: l,w + 1,x,h => by
  have:=sum_set l w x (by simpa using h)
  simp only [List.set_cons_succ,List.sum_cons,List.getD_cons_succ] at this ⊢
  omega
theorem sum_le {n:Nat}:∀ (l:List Nat),(∀ x ∈ l,x <= n) -> l.sum <= l.length * n
 | [],_ => by simp
 | y :: l,h => by
  have h1:=sum_le l (fun x hx => h x (List.mem_cons_of_mem _ hx))
  have h2:=h y (by simp)
  simp only [List.sum_cons,List.length_cons,Nat.add_mul]
  omega
theorem FrOk.sum_le {rel:List Nat} (h:FrOk rel):rel.sum <= 64:=by
 have h1:=FR.sum_le (n:=16) rel (fun x hx => by
  obtain ⟨i,hi⟩:=List.mem_iff_getElem?.1 hx
  have:=h.lt i x hi
  have:=pow_le4 h.len
  omega)
 have:=h.len
 omega
theorem sum_step {c:Nat} {cur:List Nat} (h:FrOk cur) {w:Nat} (hw:w < cur.length) (hl:lackS c cur w ≠ 0):cur.sum < (cur.set w (cur.getD w 0 ||| lackS c cur w)).sum:=by
 have h1:=sum_set cur w (cur.getD w 0 ||| lackS c cur w) hw
 have h2:=or_gt (a:=cur.getD w 0) hl (fun u hu => (lack_bits h hw hu).2)
 omega
end Go.FR
namespace Go.FR
open Go
set_option linter.unusedVariables false
set_option linter.unusedSimpArgs false
set_option linter.unusedSectionVars false
mutual
def nodesF:Fm -> Nat
 | .mk _ _ args subs => 1 + nodesTs args + nodesL subs
def nodesL:List Fm -> Nat
 | [] => 0
 | f :: r => nodesF f + nodesL r
def nodesT:Tm -> Nat
 | .mk _ _ args => 1 + nodesTs args
def nodesTs:List Tm -> Nat
 | [] => 0
 | t :: r => nodesT t + nodesTs r
end
mutual
def depthT:Tm -> Nat
 | .mk _ _ args => 1 + depthTs args
def depthTs:List Tm -> Nat
 | [] => 0
 | t :: r => max (depthT t) (depthTs r)
end
mutual
def depthF:Fm -> Nat
 | .mk _ _ args subs => 1 + max (depthTs args) (depthL subs)
def depthL:List Fm -> Nat
 | [] => 0
 | f :: r => max (depthF f) (depthL r)
end
def pqr (k:Nat):ByteArray:=⟨#[UInt8.ofNat (80 + k)]⟩
def AtomF (nm:ByteArray):Fm:=.mk 1 nm [] []
def FalseF:Fm:=.mk 2 ⟨#[]⟩ [] []
mutual
def plnF (modal:Bool):Fm -> Bool
 | .mk op nm args subs => args.isEmpty && ((decide (op = 1) && (decide (nm = pqr 0) || decide (nm = pqr 1) || decide (nm = pqr 2)) && subs.isEmpty) || (decide (op = 2) && decide (nm = ⟨#[]⟩) && subs.isEmpty) || (decide (op = 3) && decide (nm = ⟨#[]⟩) && decide (subs.length = 1)) ||
   (decide (4 <= op /\ op <= 7) && decide (nm = ⟨#[]⟩) && decide (subs.length = 2)) || (modal && decide (op = 10 ∨ op = 11) && decide (nm = ⟨#[]⟩) && decide (subs.length = 1))) && plnL modal subs
def plnL (modal:Bool):List Fm -> Bool
 | [] => true
 | f :: r => plnF modal f && plnL modal r
end
def bstep (modal:Bool) (s:List Fm) (b:Nat):List Fm :=
 let n:=s.length
 let op:=b % 10
 if op < 3 then s ++ [AtomF (pqr op)]
 else if op = 3 /\ 1 <= n then s.take (n - 1) ++ [Op1 3 (s.getD (n - 1) FalseF)]
 else if 3 < op /\ op < 8 /\ 2 <= n then s.take (n - 2) ++ [Op2 op (s.getD (n - 2) FalseF) (s.getD (n - 1) FalseF)]
 else if 8 <= op /\ 1 <= n /\ modal = true then s.take (n - 1) ++ [Op1 (op + 2) (s.getD (n - 1) FalseF)]
 else if op = 8 then s ++ [FalseF]
 else s
def bstack (modal:Bool) (l:List Nat):List Fm:=l.foldl (bstep modal) []
def bjoin:List Fm -> Fm
 | [] => FalseF
 | f :: r => r.foldl (fun a b => Op2 5 a b) f
def builtF (modal:Bool) (l:List Nat):Fm:=bjoin (bstack modal (l.take 20))
theorem nodesF_pos (f:Fm):1 <= nodesF f:=by cases f; unfold nodesF; omega
mutual
theorem depth_leT:∀ t:Tm,depthT t <= nodesT t
 | .mk _ _ args => by unfold depthT nodesT; have:=depth_leTs args; omega
theorem depth_leTs:∀ l:List Tm,depthTs l <= nodesTs l
 | [] => Nat.le_refl _
 | t :: r => by unfold depthTs nodesTs; have:=depth_leT t; have:=depth_leTs r; omega
end
mutual
theorem depth_leF:∀ f:Fm,depthF f <= nodesF f
 | .mk _ _ args subs => by unfold depthF nodesF; have:=depth_leTs args; have:=depth_leL subs; omega
theorem depth_leL:∀ l:List Fm,depthL l <= nodesL l
 | [] => Nat.le_refl _
 | t :: r => by unfold depthL nodesL; have:=depth_leF t; have:=depth_leL r; omega
end
theorem nodesL_append:∀ a b:List Fm,nodesL (a ++ b) = nodesL a + nodesL b
 | [],b => by simp [nodesL]
 | f :: a,b => by simp only [List.cons_append,nodesL,nodesL_append a b]; omega
theorem nodesL_len:∀ l:List Fm,l.length <= nodesL l
 | [] => by simp
 | f :: l => by have:=nodesL_len l; have:=nodesF_pos f; simp only [List.length_cons,nodesL]; omega
theorem nodes_one (op:Nat) (f:Fm):nodesF (Op1 op f) = nodesF f + 1:=by unfold Op1; simp only [nodesF,nodesTs,nodesL]; omega
theorem nodes_two (op:Nat) (f g:Fm):nodesF (Op2 op f g) = nodesF f + nodesF g + 1:=by unfold Op2; simp only [nodesF,nodesTs,nodesL]; omega
theorem depth_one (op:Nat) (f:Fm):depthF (Op1 op f) = depthF f + 1:=by unfold Op1; simp only [depthF,depthTs,depthL]; omega
theorem depth_two (op:Nat) (f g:Fm):depthF (Op2 op f g) = max (depthF f) (depthF g) + 1:=by unfold Op2; simp only [depthF,depthTs,depthL]; omega
theorem take_last {s:List Fm} (h:1 <= s.length):s = s.take (s.length - 1) ++ [s.getD (s.length - 1) FalseF]:=by
 have hi:s.length - 1 < s.length:=by omega
 have e:s.getD (s.length - 1) FalseF = s[s.length - 1]:=by rw [List.getD_eq_getElem?_getD,List.getElem?_eq_getElem hi]; rfl
 rw [e,<- List.take_succ_eq_append_getElem hi,List.take_of_length_le (by omega)]
theorem take_last2 {s:List Fm} (h:2 <= s.length):s = s.take (s.length - 2) ++ [s.getD (s.length - 2) FalseF,s.getD (s.length - 1) FalseF]:=by
 have hi:s.length - 2 < s.length:=by omega
 have e:s.getD (s.length - 2) FalseF = s[s.length - 2]:=by rw [List.getD_eq_getElem?_getD,List.getElem?_eq_getElem hi]; rfl
 have h1:=take_last (s:=s) (by omega)
 have e2:s.take (s.length - 1) = s.take (s.length - 2) ++ [s.getD (s.length - 2) FalseF]:=by
  rw [e,<- List.take_succ_eq_append_getElem hi]
  congr 1; omega
 rw [e2,List.append_assoc] at h1
 exact h1
def PlnS (modal:Bool) (s:List Fm) (k:Nat):Prop:=plnL modal s = true /\ nodesL s <= k
theorem plnL_append (modal:Bool):∀ a b:List Fm,plnL modal (a ++ b) = (plnL modal a && plnL modal b)
 | [],b => by simp [plnL]
 | f :: a,b => by simp only [List.cons_append,plnL,plnL_append modal a b,Bool.and_assoc]
theorem pln_atom (modal:Bool) {k:Nat} (h:k < 3):plnF modal (AtomF (pqr k)) = true:=by
 unfold AtomF plnF
 rcases (by omega:k = 0 ∨ k = 1 ∨ k = 2) with rfl | rfl | rfl <;> simp [plnL]
theorem pln_false (modal:Bool):plnF modal FalseF = true:=by unfold FalseF plnF; simp [plnL]
theorem pln_one {modal:Bool} {op:Nat} {f:Fm} (ho:op = 3 ∨ (modal = true /\ (op = 10 ∨ op = 11))) (h:plnF modal f = true):plnF modal (Op1 op f) = true:=by
 unfold Op1 plnF
 rcases ho with rfl | ⟨rfl,rfl | rfl⟩ <;> simp [plnL,h]
theorem pln_two {modal:Bool} {op:Nat} {f g:Fm} (ho:4 <= op /\ op <= 7) (h:plnF modal f = true) (h2:plnF modal g = true):plnF modal (Op2 op f g) = true:=by
 unfold Op2 plnF
 simp [plnL,h,h2,ho]
theorem bstep_pln {modal:Bool} {s:List Fm} {k b:Nat} (h:PlnS modal s k):PlnS modal (bstep modal s b) (k + 1):=by
 obtain ⟨h1,h2⟩:=h
 unfold bstep
 simp only []
 split
 ·rename_i ho
  exact ⟨by rw [plnL_append,h1]; simp [plnL,pln_atom modal ho],by rw [nodesL_append]; simp [nodesL,AtomF,nodesF,nodesTs]; omega⟩
 ·split
  ·rename_i ho
   have e:=take_last ho.2
   rw [e,plnL_append] at h1
   rw [e,nodesL_append] at h2
   simp only [plnL,Bool.and_true,Bool.and_eq_true] at h1
   simp only [nodesL] at h2
   exact ⟨by rw [plnL_append,h1.1]; simp only [plnL,pln_one (.inl rfl) h1.2,Bool.and_true],by rw [nodesL_append]; simp only [nodesL,nodes_one]; omega⟩
  ·split
   ·rename_i ho
    have e:=take_last2 ho.2.2
    rw [e,plnL_append] at h1
    rw [e,nodesL_append] at h2
    simp only [plnL,Bool.and_true,Bool.and_eq_true] at h1
    simp only [nodesL] at h2
    exact ⟨by rw [plnL_append,h1.1]; simp only [plnL,pln_two (op:=b % 10) ⟨by omega,by omega⟩ h1.2.1 h1.2.2,Bool.and_true],by rw [nodesL_append]; simp only [nodesL,nodes_two]; omega⟩
   ·split
    ·rename_i ho
     have e:=take_last ho.2.1
     rw [e,plnL_append] at h1
     rw [e,nodesL_append] at h2
     simp only [plnL,Bool.and_true,Bool.and_eq_true] at h1
     simp only [nodesL] at h2
     have hop:b % 10 + 2 = 10 ∨ b % 10 + 2 = 11:=by omega
     exact ⟨by rw [plnL_append,h1.1]; simp only [plnL,pln_one (.inr ⟨ho.2.2,hop⟩) h1.2,Bool.and_true],by rw [nodesL_append]; simp only [nodesL,nodes_one]; omega⟩
    ·split
     ·exact ⟨by rw [plnL_append,h1]; simp [plnL,pln_false],by rw [nodesL_append]; simp [nodesL,FalseF,nodesF,nodesTs]; omega⟩
     ·exact ⟨h1,by omega⟩
theorem bstack_pln (modal:Bool):∀ (l:List Nat) (s:List Fm) (k:Nat),PlnS modal s k -> PlnS modal (l.foldl (bstep modal) s) (k + l.length)
 | [],s,k,h => h
 | b :: l,s,k,h => by
  have:=bstack_pln modal l _ _ (bstep_pln (b:=b) h)
  simp only [List.foldl_cons,List.length_cons]
  rw [show k + (l.length + 1) = k + 1 + l.length by omega]
  exact this
theorem bjoin_fold (modal:Bool):∀ (r:List Fm) (f:Fm) (N:Nat),plnF modal f = true -> plnL modal r = true -> depthF f <= N -> 1 <= N -> plnF modal (r.foldl (fun a b => Op2 5 a b) f) = true /\ depthF (r.foldl (fun a b => Op2 5 a b) f) <= N + nodesL r /\ nodesF (r.foldl (fun a b => Op2 5 a b) f) <= nodesF f + 2 * nodesL r
 | [],f,N,h,_,hd,_ => ⟨h,by simpa [nodesL] using hd,by simp [nodesL]⟩
 | g :: r,f,N,h,hr,hd,hN => by
  simp only [plnL,Bool.and_eq_true] at hr
  have hg:=depth_leF g
  have hp:=nodesF_pos g
  have:=bjoin_fold modal r (Op2 5 f g) (N + nodesF g) (pln_two ⟨by omega,by omega⟩ h hr.1) hr.2 (by rw [depth_two]; omega) (by omega)
  simp only [List.foldl_cons,nodesL]
  rw [nodes_two] at this
  exact ⟨this.1,by omega,by omega⟩
theorem built_pln (modal:Bool) (l:List Nat):plnF modal (builtF modal l) = true /\ depthF (builtF modal l) <= 20 /\ nodesF (builtF modal l) <= 40:=by
 unfold builtF bstack
 have h:=bstack_pln modal (l.take 20) [] 0 ⟨rfl,by simp [nodesL]⟩
 have hl:(l.take 20).length <= 20:=by rw [List.length_take]; omega
 obtain ⟨h1,h2⟩:=h
 rcases e:(l.take 20).foldl (bstep modal) [] with _ | ⟨f,r⟩
 ·exact ⟨pln_false modal,by simp [bjoin,FalseF,depthF,depthTs,depthL],by simp [bjoin,FalseF,nodesF,nodesTs,nodesL]⟩
 ·rw [e] at h1 h2
  simp only [plnL,Bool.and_eq_true] at h1
  simp only [nodesL] at h2
  have hf:=depth_leF f
  have hp:=nodesF_pos f
  have:=bjoin_fold modal r f (nodesF f) h1.1 h1.2 hf hp
  show plnF modal (r.foldl _ f) = true /\ _
  exact ⟨this.1,by have:=this.2.1; show depthF (r.foldl _ f) <= 20; omega,by have:=this.2.2; show nodesF (r.foldl _ f) <= 40; omega⟩
end Go.FR
namespace Go.FR
open Go
set_option linter.unusedVariables false
set_option linter.unusedSimpArgs false
set_option linter.unusedSectionVars false
def fRow (lw w:Nat) (rel:List Nat):Nat -> Nat
 | 0 => 1 <<< w
 | k + 1 => if w = 0 ∨ lw.testBit (w + 1 + k) = true then fRow lw w rel k ||| rel.getD (w + 1 + k) 0 else fRow lw w rel k
def fRel (n:Nat) (l:Nat -> Nat):Nat -> List Nat
 | 0 => List.replicate n 0
 | k + 1 => (fRel n l k).set (n - 1 - k) (fRow (l (n - 1 - k)) (n - 1 - k) (fRel n l k) k)
def forcB (rel:List Nat):Bool :=
 decide (rel.length <= 4) && (List.range 4).all fun w => decide (rel.getD w 0 < 2 ^ rel.length) && (decide (rel.length <= w) || (rel.getD w 0).testBit w) &&
  (List.range 4).all fun u => !(rel.getD w 0).testBit u || (List.range 4).all fun v => !(rel.getD u 0).testBit v || (rel.getD w 0).testBit v
theorem getD_get {rel:List Nat} {w s:Nat} (h:rel[w]? = some s):rel.getD w 0 = s:=by rw [List.getD_eq_getElem?_getD,h]; rfl
theorem frok_of {rel:List Nat} (hl:rel.length <= 4) (h:∀ w,w < 4 -> rel.getD w 0 < 2 ^ rel.length):FrOk rel :=
 ⟨hl,fun w s hs => by
  have hw:=(List.getElem?_eq_some_iff.1 hs).1
  rw [<- getD_get hs]
  exact h w (by omega)⟩
theorem forc_of {rel:List Nat} (h:forcB rel = true):Forc rel:=by
 unfold forcB at h
 simp only [Bool.and_eq_true,decide_eq_true_iff,List.all_eq_true,List.mem_range,Bool.or_eq_true,Bool.not_eq_true'] at h
 obtain ⟨hl,h⟩:=h
 have ho:FrOk rel:=frok_of hl fun w hw => (h w hw).1.1
 refine ⟨ho,fun w hw => ?_,fun w u v h1 h2 => ?_⟩
 ·rcases (h w (by omega)).1.2 with h1 | h1
  ·omega
  ·exact h1
 ·have hw:=(ho.see h1).1
  have hu:=(ho.see h1).2
  have hv:=(ho.see h2).2
  rcases (h w (by omega)).2 u (by omega) with h3 | h3
  ·rw [h1] at h3; cases h3
  ·rcases h3 v (by omega) with h4 | h4
   ·rw [h2] at h4; cases h4
   ·exact h4
theorem fRel_len (n:Nat) (l:Nat -> Nat):∀ k,(fRel n l k).length = n
 | 0 => by simp [fRel]
 | k + 1 => by simp [fRel,fRel_len n l k]
theorem forced_forc (n:Nat) (h1:1 <= n) (h4:n <= 4) (l:Nat -> Nat):Forc (fRel n l n) /\ (fRel n l n).getD 0 0 = 2 ^ n - 1:=by
 rcases (by omega:n = 1 ∨ n = 2 ∨ n = 3 ∨ n = 4) with rfl | rfl | rfl | rfl
 ·exact ⟨forc_of (by simp [fRel,fRow]; decide),by simp [fRel,fRow]⟩
 ·exact ⟨forc_of (by simp [fRel,fRow]; decide),by simp [fRel,fRow]⟩
 ·rcases e:(l 1).testBit 2 with _ | _ <;> exact ⟨forc_of (by simp [fRel,fRow,e]; decide),by simp [fRel,fRow,e]⟩
 ·rcases e:(l 1).testBit 2 with _ | _ <;> rcases e2:(l 1).testBit 3 with _ | _ <;> rcases e3:(l 2).testBit 3 with _ | _ <;> exact ⟨forc_of (by simp [fRel,fRow,e,e2,e3]; decide),by simp [fRel,fRow,e,e2,e3]⟩
def upK (rel:List Nat) (m:Nat):Nat -> Nat
 | 0 => 0
 | k + 1 => if m.testBit k = true then upK rel m k ||| rel.getD k 0 else upK rel m k
theorem upK_test (rel:List Nat) (m v:Nat):∀ k,(upK rel m k).testBit v = true ↔ ∃ u,u < k /\ m.testBit u = true /\ (rel.getD u 0).testBit v = true
 | 0 => by simp [upK]
 | k + 1 => by
  have ih:=upK_test rel m v k
  unfold upK
  by_cases h:m.testBit k = true
  ·rw [if_pos h,Nat.testBit_or,Bool.or_eq_true,ih]
   constructor
   ·rintro (⟨u,h1,h2⟩ | h1)
    ·exact ⟨u,by omega,h2⟩
    ·exact ⟨k,by omega,h,h1⟩
   ·rintro ⟨u,h1,h2,h3⟩
    by_cases e:u = k
    ·subst e; exact .inr h3
    ·exact .inl ⟨u,by omega,h2,h3⟩
  ·rw [if_neg h,ih]
   constructor
   ·rintro ⟨u,h1,h2⟩; exact ⟨u,by omega,h2⟩
   ·rintro ⟨u,h1,h2,h3⟩
    by_cases e:u = k
    ·subst e; exact absurd h2 h
    ·exact ⟨u,by omega,h2,h3⟩
theorem upK_up {rel:List Nat} (hF:Forc rel) (m k:Nat):UpM rel (upK rel m k):=fun w u hw hs => by
 rw [upK_test] at hw ⊢
 obtain ⟨x,h1,h2,h3⟩:=hw
 exact ⟨x,h1,h2,hF.trans x w u h3 hs⟩
theorem upK_lt {rel:List Nat} (hr:FrOk rel) (m k:Nat):upK rel m k < 2 ^ rel.length:=lt_of_bits fun v hv => by
 rw [upK_test] at hv
 obtain ⟨u,_,_,h⟩:=hv
 exact (hr.see h).2
def look3 (a b c:Nat) (s:ByteArray):Option Nat:=if s = pqr 0 then some a else if s = pqr 1 then some b else if s = pqr 2 then some c else none
end Go.FR
