import Derived.Test.YtflmllablfjfeaaDoorFrz
namespace Go.Proofs.YtflmllablfjfeaaDoor
open Go.RowKit Go.HK Go.FR
set_option linter.unusedVariables false
set_option linter.unusedSimpArgs false
set_option linter.unusedSectionVars false
theorem forced_suits (n:Nat) (h1:1 <= n) (h4:n <= 4) (l:Nat -> Nat):suitsB true 0 (fRel n l n) (n - 1) = true:=by
 rcases (by omega:n = 1 ∨ n = 2 ∨ n = 3 ∨ n = 4) with rfl | rfl | rfl | rfl
 ·simp only [fRel,fRow]; decide +kernel
 ·have:fRel 2 l 2 = [3,2]:=by simp [fRel,fRow]
  rw [this]; decide +kernel
 ·rcases e:(l 1).testBit 2 with _ | _
  ·have:fRel 3 l 3 = [7,2,4]:=by simp [fRel,fRow,e]
   rw [this]; decide +kernel
  ·have:fRel 3 l 3 = [7,6,4]:=by simp [fRel,fRow,e]
   rw [this]; decide +kernel
 ·rcases e:(l 1).testBit 2 with _ | _ <;> rcases e2:(l 1).testBit 3 with _ | _ <;> rcases e3:(l 2).testBit 3 with _ | _ <;> (simp [fRel,fRow,e,e2,e3]; decide +kernel)
def mdl (kind n:Nat) (rel fs:List Nat):Mdl:=⟨kind,(n:Int),rel.map fun x:Nat => (x:Int),0,factL 0 fs,0,0⟩
theorem nmK_fact (fs:List Nat) (i k:Nat) (h:k < fs.length):nmK (factL i fs) k = pqr (i + k) /\ ((factL i fs).getD k (⟨#[]⟩,0,0)).2 = (0,(fs.getD k 0:Int)):=by
 induction fs generalizing i k with
 | nil => simp at h
 | cons x r ih =>
  cases k with
  | zero => simp [nmK,factL]
  | succ k =>
   have:=ih (i + 1) k (by simpa using h)
   unfold nmK at this ⊢
   simp only [factL,List.getD_cons_succ]
   rw [show i + (k + 1) = i + 1 + k by omega]
   exact this
theorem facts3 {force:Bool} {rel:List Nat} {a b c:Nat} (h:∀ m,m = a ∨ m = b ∨ m = c -> m < 2 ^ rel.length /\ (force = true -> persK rel m rel.length = true)):factsK force rel (factL 0 [a,b,c]) 3 = true:=by
 have key:∀ k,k < 3 -> factB force rel (factL 0 [a,b,c]) k = true:=fun k hk => by
  have e:=nmK_fact [a,b,c] 0 k (by simpa using hk)
  have hm:([a,b,c].getD k 0 = a ∨ [a,b,c].getD k 0 = b ∨ [a,b,c].getD k 0 = c):=by
   rcases (by omega:k = 0 ∨ k = 1 ∨ k = 2) with rfl | rfl | rfl <;> simp
  have h2:=h _ hm
  unfold factB
  rw [e.2]
  have hlt:predB (nmK (factL 0 [a,b,c]) k) = true /\ (decide (k = 0) || ltS (nmK (factL 0 [a,b,c]) (k - 1)) (nmK (factL 0 [a,b,c]) k)) = true:=by
   rw [e.1,(nmK_fact [a,b,c] 0 (k - 1) (by simp; omega)).1]
   rcases (by omega:k = 0 ∨ k = 1 ∨ k = 2) with rfl | rfl | rfl <;> exact ⟨by decide +kernel,by decide +kernel⟩
  rw [hlt.1,hlt.2]
  simp only [Bool.and_true,Bool.true_and,decide_true,Int.toNat_natCast]
  rw [decide_eq_true (by omega:(0:Int) <= (([a,b,c].getD k 0:Nat):Int)),decide_eq_true (by have:=h2.1; omega:(([a,b,c].getD k 0:Nat):Int) < ((2 ^ rel.length:Nat):Int))]
  cases force
  ·rfl
  ·rw [h2.2 rfl]; rfl
 unfold factsK factsK factsK factsK
 rw [key 0 (by omega),key 1 (by omega),key 2 (by omega)]; rfl
theorem persK_of {rel:List Nat} {m:Nat} (hr:FrOk rel) (hm:m < 16) (h:UpM rel m):∀ k,persK rel m k = true
 | 0 => rfl
 | k + 1 => by
  unfold persK
  rw [persK_of hr hm h k,Bool.true_and]
  rcases e:m.testBit k with _ | _
  ·rfl
  ·have:andn (rel.getD k 0) m = 0:=(andn_zero (hr.lt32 k) (by omega)).2 fun u hu => h k u e hu
   rw [this]; rfl
theorem mdl_ok {kind n:Nat} {rel:List Nat} {a b c:Nat} (hk:kind = 3 ∨ kind = 4) (hr:FrOk rel) (hn:rel.length = n) (h1:1 <= n) (hs:suitsB (decide (kind = 3)) 0 rel (n - 1) = true) (h:∀ m,m = a ∨ m = b ∨ m = c -> m < 2 ^ rel.length /\ (decide (kind = 3) = true -> persK rel m rel.length = true)):(mdl kind n rel [a,b,c]).ok = true:=by
 unfold Mdl.ok validB mdl
 simp only []
 rw [frok_relB hr (by omega),natsI_of,List.length_map,hn,hs,factL_len]
 have:=facts3 h
 rw [show [a,b,c].length = 3 from rfl,this]
 simp [hk]
theorem look_three (a b c:Nat):lookG (gsK (factL 0 [a,b,c]) 3) = look3 a b c:=by
 funext s
 unfold lookG gsK gsK gsK gsK
 rw [gget_put,gget_put,gget_put,(nmK_fact [a,b,c] 0 0 (by simp)).1,(nmK_fact [a,b,c] 0 1 (by simp)).1,(nmK_fact [a,b,c] 0 2 (by simp)).1]
 rw [(nmK_fact [a,b,c] 0 0 (by simp)).2,(nmK_fact [a,b,c] 0 1 (by simp)).2,(nmK_fact [a,b,c] 0 2 (by simp)).2]
 unfold look3
 have d01:¬ pqr 0 = pqr 1:=by decide
 have d02:¬ pqr 0 = pqr 2:=by decide
 have d12:¬ pqr 1 = pqr 2:=by decide
 simp only [Nat.zero_add]
 by_cases h0:s = pqr 0
 ·subst h0; simp [d01,d02,intOf]
 ·by_cases h1:s = pqr 1
  ·subst h1; simp [h0,d12,intOf]
  ·by_cases h2:s = pqr 2
   ·subst h2; simp [h0,h1,intOf]
   ·simp [h0,h1,h2,gget,gfind]
theorem mdl_lack (kind n:Nat) (rel:List Nat) (a b c:Nat) (f:Fm):(mdl kind n rel [a,b,c]).lack f = lackF (look3 a b c) f:=by
 unfold Mdl.lack Mdl.gs mdl
 simp only []
 rw [factL_len,show [a,b,c].length = 3 from rfl,look_three]
mutual
theorem pln_good {modal:Bool} (D:Nat):∀ (f:Fm) (d:Nat),plnF modal f = true -> d + depthF f <= D + 1 -> goodF D d f = true
 | .mk op nm args subs,d,h,hd => by
  unfold plnF at h
  rw [Bool.and_eq_true,Bool.and_eq_true] at h
  obtain ⟨⟨ha,h1⟩,h2⟩:=h
  have ha:args = []:=List.isEmpty_iff.1 ha
  subst ha
  unfold depthF at hd
  have hz:depthTs [] = 0:=by unfold depthTs; rfl
  have hgf:=plnL_good D subs (d + 1) h2 (by omega)
  unfold goodF
  rw [hgf]
  simp only [Bool.or_eq_true,Bool.and_eq_true,decide_eq_true_iff] at h1
  have hgt:goodTs D (d + 1) [] = true:=by unfold goodTs; rfl
  rw [hgt,decide_eq_true (show d <= D by omega)]
  rcases h1 with (((⟨⟨rfl,h3⟩,h4⟩ | ⟨⟨rfl,rfl⟩,h4⟩) | ⟨⟨rfl,rfl⟩,h4⟩) | ⟨⟨h3,rfl⟩,h4⟩) | ⟨⟨⟨hm,h3⟩,rfl⟩,h4⟩
  ·have h4:subs = []:=List.isEmpty_iff.1 h4
   subst h4
   rcases h3 with (h5 | h5) | h5 <;> (rw [h5]; decide +kernel)
  ·have h4:subs = []:=List.isEmpty_iff.1 h4
   subst h4
   decide +kernel
  ·rw [h4]; decide +kernel
  ·rw [h4]
   rcases (by omega:op = 4 ∨ op = 5 ∨ op = 6 ∨ op = 7) with rfl | rfl | rfl | rfl <;> decide +kernel
  ·rw [h4]
   rcases h3 with rfl | rfl <;> decide +kernel
theorem plnL_good {modal:Bool} (D:Nat):∀ (l:List Fm) (d:Nat),plnL modal l = true -> d + depthL l <= D + 1 -> goodFs D d l = true
 | [],d,_,_ => by unfold goodFs; rfl
 | f :: r,d,h,hd => by
  unfold plnL at h
  rw [Bool.and_eq_true] at h
  unfold depthL at hd
  unfold goodFs
  rw [pln_good D f d h.1 (by omega),plnL_good D r d h.2 (by omega)]; rfl
end
mutual
theorem pln_ops {modal:Bool} {kind:Nat} (hk:modal = true -> kind = 4):∀ f:Fm,plnF modal f = true -> opsF kind f = true
 | .mk op nm args subs,h => by
  unfold plnF at h
  rw [Bool.and_eq_true,Bool.and_eq_true] at h
  obtain ⟨⟨ha,h1⟩,h2⟩:=h
  have ha:args = []:=List.isEmpty_iff.1 ha
  subst ha
  unfold opsF
  rw [plnL_ops hk subs h2]
  simp only [Bool.or_eq_true,Bool.and_eq_true,decide_eq_true_iff] at h1
  have:(1 <= op /\ op <= 7) ∨ (kind = 4 /\ (op = 10 ∨ op = 11)):=by
   rcases h1 with (((⟨⟨rfl,_⟩,_⟩ | ⟨⟨rfl,_⟩,_⟩) | ⟨⟨rfl,_⟩,_⟩) | ⟨⟨h3,_⟩,_⟩) | ⟨⟨⟨hm,h3⟩,_⟩,_⟩
   ·exact .inl (by omega)
   ·exact .inl (by omega)
   ·exact .inl (by omega)
   ·exact .inl (by omega)
   ·exact .inr ⟨hk hm,h3⟩
  rcases this with h | ⟨h,h5⟩
  ·simp [h]
  ·simp [h,h5]
theorem plnL_ops {modal:Bool} {kind:Nat} (hk:modal = true -> kind = 4):∀ l:List Fm,plnL modal l = true -> opsL kind l = true
 | [],_ => by unfold opsL; rfl
 | f :: r,h => by
  unfold plnL at h
  rw [Bool.and_eq_true] at h
  unfold opsL
  rw [pln_ops hk f h.1,plnL_ops hk r h.2]; rfl
end
theorem pln_right {modal:Bool} {kind:Nat} (hk:modal = true -> kind = 4) {f:Fm} (h:plnF modal f = true) (hd:depthF f <= 40) (hn:nodesF f <= 400):rightK kind f = true:=by
 unfold rightK rightF
 rw [pln_good 40 f 1 h (by omega),pln_ops hk f h,decide_eq_true (by omega)]; rfl
end Go.Proofs.YtflmllablfjfeaaDoor
