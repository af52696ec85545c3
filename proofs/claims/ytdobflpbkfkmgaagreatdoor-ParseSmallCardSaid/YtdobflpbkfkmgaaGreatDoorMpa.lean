import Derived.Test.YtdobflpbkfkmgaaGreatDoorLexZ
namespace Go.FR
open Go
set_option linter.unusedVariables false
set_option linter.unusedSimpArgs false
set_option linter.unusedSectionVars false
inductive Tm where
 | mk (var:Bool) (name:ByteArray) (args:List Tm)
inductive Fm where
 | mk (op:Nat) (name:ByteArray) (args:List Tm) (subs:List Fm)
def Op1 (op:Nat) (f:Fm):Fm:=.mk op ⟨#[]⟩ [] [f]
def Op2 (op:Nat) (f g:Fm):Fm:=.mk op ⟨#[]⟩ [] [f,g]
mutual
def nodesF:Fm -> Nat
 | .mk _ _ args subs => 1 + nodesTs args + nodesL subs
def nodesL:List Fm -> Nat
 | [] => 0
 | f :: r => nodesF f + nodesL r
def nodesT:Tm -> Nat
 | .mk _ _ args => 1 + nodesTs args
def nodesTs:List Tm -> Nat
 | [] => 0
 | t :: r => nodesT t + nodesTs r
end
mutual
def depthT:Tm -> Nat
 | .mk _ _ args => 1 + depthTs args
def depthTs:List Tm -> Nat
 | [] => 0
 | t :: r => max (depthT t) (depthTs r)
end
mutual
def depthF:Fm -> Nat
 | .mk _ _ args subs => 1 + max (depthTs args) (depthL subs)
def depthL:List Fm -> Nat
 | [] => 0
 | f :: r => max (depthF f) (depthL r)
end
theorem nodesF_pos (f:Fm):1 <= nodesF f:=by cases f; unfold nodesF; omega
theorem nodesT_pos (f:Tm):1 <= nodesT f:=by cases f; unfold nodesT; omega
mutual
theorem depth_leT:∀ t:Tm,depthT t <= nodesT t
 | .mk _ _ args => by unfold depthT nodesT; have:=depth_leTs args; omega
theorem depth_leTs:∀ l:List Tm,depthTs l <= nodesTs l
 | [] => Nat.le_refl _
 | t :: r => by unfold depthTs nodesTs; have:=depth_leT t; have:=depth_leTs r; omega
end
mutual
theorem depth_leF:∀ f:Fm,depthF f <= nodesF f
 | .mk _ _ args subs => by unfold depthF nodesF; have:=depth_leTs args; have:=depth_leL subs; omega
theorem depth_leL:∀ l:List Fm,depthL l <= nodesL l
 | [] => Nat.le_refl _
 | t :: r => by unfold depthL nodesL; have:=depth_leF t; have:=depth_leL r; omega
end
theorem nodesL_append:∀ a b:List Fm,nodesL (a ++ b) = nodesL a + nodesL b
 | [],b => by simp [nodesL]
 | f :: a,b => by simp only [List.cons_append,nodesL,nodesL_append a b]; omega
theorem nodesTs_append:∀ a b:List Tm,nodesTs (a ++ b) = nodesTs a + nodesTs b
 | [],b => by simp [nodesTs]
 | f :: a,b => by simp only [List.cons_append,nodesTs,nodesTs_append a b]; omega
theorem nodesL_len:∀ l:List Fm,l.length <= nodesL l
 | [] => by simp
 | f :: l => by have:=nodesL_len l; have:=nodesF_pos f; simp only [List.length_cons,nodesL]; omega
theorem nodesTs_len:∀ l:List Tm,l.length <= nodesTs l
 | [] => by simp
 | f :: l => by have:=nodesTs_len l; have:=nodesT_pos f; simp only [List.length_cons,nodesTs]; omega
theorem nodes_one (op:Nat) (f:Fm):nodesF (Op1 op f) = nodesF f + 1:=by unfold Op1; simp only [nodesF,nodesTs,nodesL]; omega
theorem nodes_two (op:Nat) (f g:Fm):nodesF (Op2 op f g) = nodesF f + nodesF g + 1:=by unfold Op2; simp only [nodesF,nodesTs,nodesL]; omega
end Go.FR
namespace Go.Proofs.YtdobflpbkfkmgaaGreatDoor
open Go Go.RowKit Go.FR
set_option linter.unusedVariables false
set_option linter.unusedSimpArgs false
set_option linter.unusedSectionVars false
def tkA (ts:List Tok) (k:Nat):Tok:=ts.getD k ⟨5,⟨#[]⟩,0⟩
def txt (ts:List Tok) (k:Nat):List UInt8:=bys (tkA ts k).t
def rest1 (s:ByteArray):ByteArray:=s.extract 1 s.size
def isVar (ts:List Tok) (k:Nat):Bool:=decide ((tkA ts k).k = 1) && checkB varB digitB (tkA ts k).t
def isFun (ts:List Tok) (k:Nat):Bool:=decide ((tkA ts k).k = 1) && checkB funB alnumB (tkA ts k).t
def isPre (ts:List Tok) (k:Nat):Bool:=decide ((tkA ts k).k = 1) && checkB capB alnumB (tkA ts k).t
def isFM (metas:Bool) (ts:List Tok) (k:Nat):Bool:=decide ((tkA ts k).k = 2) && (metas && checkB capB alnumB (rest1 (tkA ts k).t))
def isTM (metas:Bool) (ts:List Tok) (k:Nat):Bool:=decide ((tkA ts k).k = 2) && (metas && checkB funB alnumB (rest1 (tkA ts k).t))
inductive Gl where
 | bin (i:Nat)
 | loop (i:Nat) (f:Fm)
 | un
 | basic
 | args
 | list (acc:List Tm)
 | term
inductive Ob where
 | fm (f:Fm)
 | ts (l:List Tm)
 | t (t:Tm)
inductive Ot where
 | ok (o:Ob) (k:Nat)
 | bad (k:Nat) (e:Nat)
def lvS (i:Nat):List UInt8:=if i = 0 then [60,45,62] else if i = 1 then [45,62] else if i = 2 then [117,110,116,105,108] else if i = 3 then [124] else [38]
def lvO (i:Nat):Nat:=if i = 0 then 7 else if i = 1 then 6 else if i = 2 then 14 else if i = 3 then 5 else 4
def lvR (i:Nat):Bool:=decide (i = 1) || decide (i = 2)
def unO (s:List UInt8):Option Nat :=
 if s = [126] then some 3 else if s = [91,93] then some 10 else if s = [60,62] then some 11 else if s = [110,101,120,116] then some 12
 else if s = [97,108,119,97,121,115] then some 13 else if s = [97,108,108] then some 8 else if s = [115,111,109,101] then some 9 else none
def emp:ByteArray:=⟨#[]⟩
def Va (s:ByteArray):Tm:=.mk true s []
def metaP (metas:Bool) (ts:List Tok) (k:Nat):Ot :=
 if isFM metas ts k = true then
  if txt ts (k + 1) = [91] then
   if isTM metas ts (k + 2) = true then
    if txt ts (k + 3) = [47] then
     if isVar ts (k + 4) = true then
      if txt ts (k + 5) = [93] then .ok (.fm (.mk 16 (tkA ts k).t [Va (tkA ts (k + 4)).t,Va (tkA ts (k + 2)).t] [])) (k + 6)
      else .bad (k + 5) 50
     else .bad (k + 4) 50
    else .bad (k + 3) 50
   else .bad (k + 2) 50
  else .ok (.fm (.mk 15 (tkA ts k).t [] [])) (k + 1)
 else .bad k 50
def thenO (r:Option Ot) (f:Ob -> Nat -> Option Ot):Option Ot :=
 match r with
 | some (.ok o k) => f o k
 | x => x
def fmO (o:Ob):Fm:=match o with | .fm f => f | _ => .mk 0 emp [] []
def tsO (o:Ob):List Tm:=match o with | .ts l => l | _ => []
def tO (o:Ob):Tm:=match o with | .t t => t | _ => .mk false emp []
def run (metas:Bool) (ts:List Tok):Nat -> Gl -> Nat -> Nat -> Option Ot
 | 0,_,_,_ => none
 | n + 1,.bin i,k,s =>
  if i < 5 then
   thenO (run metas ts n (.bin (i + 1)) k s) fun o k1 =>
    if lvR i = true then
     if txt ts k1 = lvS i then thenO (run metas ts n (.bin i) (k1 + 1) (s + 1)) fun o2 k2 => some (.ok (.fm (Op2 (lvO i) (fmO o) (fmO o2))) k2)
     else some (.ok (.fm (fmO o)) k1)
    else run metas ts n (.loop i (fmO o)) k1 s
  else run metas ts n .un k s
 | n + 1,.loop i f,k,s =>
  if txt ts k = lvS i then thenO (run metas ts n (.bin (i + 1)) (k + 1) s) fun o k2 => run metas ts n (.loop i (Op2 (lvO i) f (fmO o))) k2 s
  else some (.ok (.fm f) k)
 | n + 1,.un,k,s =>
  if 120 < s then some (.bad k 51)
  else match unO (txt ts k) with
   | none => run metas ts n .basic k s
   | some op =>
    if op = 8 ∨ op = 9 then
     if isVar ts (k + 1) = true then thenO (run metas ts n .un (k + 2) (s + 1)) fun o k2 => some (.ok (.fm (.mk op (tkA ts (k + 1)).t [] [fmO o])) k2)
     else some (.bad (k + 1) 50)
    else thenO (run metas ts n .un (k + 1) (s + 1)) fun o k2 => some (.ok (.fm (Op1 op (fmO o))) k2)
 | n + 1,.basic,k,s =>
  if txt ts k = [40] then
   thenO (run metas ts n (.bin 0) (k + 1) (s + 1)) fun o k2 => if txt ts k2 = [41] then some (.ok (.fm (fmO o)) (k2 + 1)) else some (.bad k2 50)
  else if txt ts k = [102,97,108,115,101] then some (.ok (.fm (.mk 2 emp [] [])) (k + 1))
  else if (tkA ts k).k = 2 then some (metaP metas ts k)
  else if isPre ts k = true then thenO (run metas ts n .args (k + 1) s) fun o k2 => some (.ok (.fm (.mk 1 (tkA ts k).t (tsO o) [])) k2)
  else some (.bad k 50)
 | n + 1,.args,k,s =>
  if txt ts k = [40] then
   thenO (run metas ts n (.list []) (k + 1) (s + 1)) fun o k2 => if txt ts k2 = [41] then some (.ok (.ts (tsO o)) (k2 + 1)) else some (.bad k2 50)
  else some (.ok (.ts []) k)
 | n + 1,.list acc,k,s =>
  thenO (run metas ts n .term k s) fun o k2 => if txt ts k2 = [44] then run metas ts n (.list (acc ++ [tO o])) (k2 + 1) s else some (.ok (.ts (acc ++ [tO o])) k2)
 | n + 1,.term,k,s =>
  if 120 < s then some (.bad k 51)
  else if (tkA ts k).k = 2 then (if isTM metas ts k = true then some (.ok (.t (Va (tkA ts k).t)) (k + 1)) else some (.bad k 50))
  else if isVar ts k = true then some (.ok (.t (Va (tkA ts k).t)) (k + 1))
  else if isFun ts k = true then thenO (run metas ts n .args (k + 1) s) fun o k2 => some (.ok (.t (.mk false (tkA ts k).t (tsO o))) k2)
  else some (.bad k 50)
theorem thenO_some {r:Option Ot} {f:Ob -> Nat -> Option Ot} {x:Ot} (h:thenO r f = some x):(∃ o k,r = some (.ok o k) /\ f o k = some x) ∨ (∃ k e,r = some (.bad k e) /\ x = .bad k e):=by
 unfold thenO at h
 rcases r with _ | (⟨o,k⟩ | ⟨k,e⟩)
 ·cases h
 ·exact .inl ⟨o,k,rfl,h⟩
 ·cases h; exact .inr ⟨k,e,rfl,rfl⟩
theorem thenO_mono {r r':Option Ot} {f f':Ob -> Nat -> Option Ot} (hr:∀ x,r = some x -> r' = some x) (hf:∀ o k x,f o k = some x -> f' o k = some x) {x:Ot} (h:thenO r f = some x):thenO r' f' = some x:=by
 rcases thenO_some h with ⟨o,k,h1,h2⟩ | ⟨k,e,h1,rfl⟩
 ·rw [hr _ h1]; exact hf o k x h2
 ·rw [hr _ h1]; rfl
theorem run_mono (metas:Bool) (ts:List Tok):∀ (n:Nat) (g:Gl) (k s:Nat) (x:Ot),run metas ts n g k s = some x -> run metas ts (n + 1) g k s = some x
 | 0,g,k,s,x,h => by cases h
 | n + 1,g,k,s,x,h => by
  have ih:=run_mono metas ts n
  cases g with
  | bin i =>
   unfold run at h ⊢
   split at h
   ·rename_i h5
    rw [if_pos h5]
    refine thenO_mono (ih _ _ _) (fun o k1 x h => ?_) h
    split at h
    ·rename_i hr
     rw [if_pos hr]
     split at h
     ·rename_i ht
      rw [if_pos ht]
      exact thenO_mono (ih _ _ _) (fun _ _ _ h => h) h
     ·rename_i ht
      rw [if_neg ht]; exact h
    ·rename_i hr
     rw [if_neg hr]
     exact ih _ _ _ _ h
   ·rename_i h5
    rw [if_neg h5]
    exact ih _ _ _ _ h
  | loop i f =>
   unfold run at h ⊢
   split at h
   ·rename_i ht
    rw [if_pos ht]
    exact thenO_mono (ih _ _ _) (fun o k2 x h => ih _ _ _ _ h) h
   ·rename_i ht
    rw [if_neg ht]; exact h
  | un =>
   unfold run at h ⊢
   split at h
   ·rename_i hs; rw [if_pos hs]; exact h
   ·rename_i hs
    rw [if_neg hs]
    cases ho:unO (txt ts k) with
    | none => rw [ho] at h; exact ih _ _ _ _ h
    | some op =>
     rw [ho] at h
     simp only [] at h ⊢
     split at h
     ·rename_i h8
      rw [if_pos h8]
      split at h
      ·rename_i hv
       rw [if_pos hv]
       exact thenO_mono (ih _ _ _) (fun _ _ _ h => h) h
      ·rename_i hv; rw [if_neg hv]; exact h
     ·rename_i h8
      rw [if_neg h8]
      exact thenO_mono (ih _ _ _) (fun _ _ _ h => h) h
  | basic =>
   unfold run at h ⊢
   split at h
   ·rename_i h1
    rw [if_pos h1]
    exact thenO_mono (ih _ _ _) (fun _ _ _ h => h) h
   ·rename_i h1
    rw [if_neg h1]
    split at h
    ·rename_i h2; rw [if_pos h2]; exact h
    ·rename_i h2
     rw [if_neg h2]
     split at h
     ·rename_i h3; rw [if_pos h3]; exact h
     ·rename_i h3
      rw [if_neg h3]
      split at h
      ·rename_i h4
       rw [if_pos h4]
       exact thenO_mono (ih _ _ _) (fun _ _ _ h => h) h
      ·rename_i h4; rw [if_neg h4]; exact h
  | args =>
   unfold run at h ⊢
   split at h
   ·rename_i h1
    rw [if_pos h1]
    exact thenO_mono (ih _ _ _) (fun _ _ _ h => h) h
   ·rename_i h1; rw [if_neg h1]; exact h
  | list acc =>
   unfold run at h ⊢
   refine thenO_mono (ih _ _ _) (fun o k2 x h => ?_) h
   split at h
   ·rename_i h1; rw [if_pos h1]; exact ih _ _ _ _ h
   ·rename_i h1; rw [if_neg h1]; exact h
  | term =>
   unfold run at h ⊢
   split at h
   ·rename_i h1; rw [if_pos h1]; exact h
   ·rename_i h1
    rw [if_neg h1]
    split at h
    ·rename_i h2; rw [if_pos h2]; exact h
    ·rename_i h2
     rw [if_neg h2]
     split at h
     ·rename_i h3; rw [if_pos h3]; exact h
     ·rename_i h3
      rw [if_neg h3]
      split at h
      ·rename_i h4
       rw [if_pos h4]
       exact thenO_mono (ih _ _ _) (fun _ _ _ h => h) h
      ·rename_i h4; rw [if_neg h4]; exact h
theorem run_le (metas:Bool) (ts:List Tok) {n m:Nat} (hm:n <= m) {g:Gl} {k s:Nat} {x:Ot} (h:run metas ts n g k s = some x):run metas ts m g k s = some x:=by
 induction m with
 | zero =>
  obtain rfl:n = 0:=by omega
  exact h
 | succ m ih =>
  by_cases e:n = m + 1
  ·subst e; exact h
  ·exact run_mono metas ts m g k s x (ih (by omega))
theorem run_det (metas:Bool) (ts:List Tok) {n m:Nat} {g:Gl} {k s:Nat} {x y:Ot} (h:run metas ts n g k s = some x) (h2:run metas ts m g k s = some y):x = y:=by
 have a:=run_le metas ts (Nat.le_max_left n m) h
 have b:=run_le metas ts (Nat.le_max_right n m) h2
 rw [a] at b
 exact Option.some.inj b
structure Ends (ts:List Tok) (z:Nat):Prop where
 len:ts.length = z + 1
 last:(tkA ts z).k = 5 /\ bys (tkA ts z).t = []
 mid:∀ k,k < z -> bys (tkA ts k).t ≠ [] /\ 1 <= (tkA ts k).k /\ (tkA ts k).k <= 4
theorem Ends.lt {ts:List Tok} {z k:Nat} (h:Ends ts z) (hk:k <= z) (ht:txt ts k ≠ []):k < z:=by
 rcases Nat.lt_or_ge k z with h1 | h1
 ·exact h1
 ·obtain rfl:k = z:=by omega
  exact absurd h.last.2 ht
theorem Ends.ltk {ts:List Tok} {z k:Nat} (h:Ends ts z) (hk:k <= z) (ht:(tkA ts k).k ≠ 5):k < z:=by
 rcases Nat.lt_or_ge k z with h1 | h1
 ·exact h1
 ·obtain rfl:k = z:=by omega
  exact absurd h.last.1 ht
def isBin:Gl -> Bool
 | .loop _ _ => false
 | .args => false
 | _ => true
def inO (z k:Nat) (strict:Bool):Ot -> Prop
 | .ok _ k2 => k <= k2 /\ k2 <= z /\ (strict = true -> k < k2)
 | .bad k2 e => k <= k2 /\ k2 <= z /\ (e = 50 ∨ e = 51)
theorem lvS_ne (i:Nat):lvS i ≠ []:=by unfold lvS; split <;> (try split) <;> (try split) <;> (try split) <;> simp
theorem isVar_k {ts:List Tok} {k:Nat} (h:isVar ts k = true):(tkA ts k).k ≠ 5:=by
 unfold isVar at h
 simp only [Bool.and_eq_true,decide_eq_true_iff] at h
 omega
theorem isFun_k {ts:List Tok} {k:Nat} (h:isFun ts k = true):(tkA ts k).k ≠ 5:=by
 unfold isFun at h
 simp only [Bool.and_eq_true,decide_eq_true_iff] at h
 omega
theorem isPre_k {ts:List Tok} {k:Nat} (h:isPre ts k = true):(tkA ts k).k ≠ 5:=by
 unfold isPre at h
 simp only [Bool.and_eq_true,decide_eq_true_iff] at h
 omega
theorem isTM_k {metas:Bool} {ts:List Tok} {k:Nat} (h:isTM metas ts k = true):(tkA ts k).k ≠ 5:=by
 unfold isTM at h
 simp only [Bool.and_eq_true,decide_eq_true_iff] at h
 omega
theorem isFM_k {metas:Bool} {ts:List Tok} {k:Nat} (h:isFM metas ts k = true):(tkA ts k).k ≠ 5:=by
 unfold isFM at h
 simp only [Bool.and_eq_true,decide_eq_true_iff] at h
 omega
theorem unO_ne {s:List UInt8} {op:Nat} (h:unO s = some op):s ≠ []:=by
 rintro rfl
 unfold unO at h
 simp at h
theorem metaP_in {metas:Bool} {ts:List Tok} {z k:Nat} (hE:Ends ts z) (hk:k <= z):inO z k true (metaP metas ts k):=by
 unfold metaP
 split
 ·rename_i h1
  have k1:=hE.ltk hk (isFM_k h1)
  split
  ·rename_i h2
   have k2:=hE.lt (k:=k + 1) (by omega) (by rw [h2]; simp)
   split
   ·rename_i h3
    have k3:=hE.ltk (k:=k + 2) (by omega) (isTM_k h3)
    split
    ·rename_i h4
     have k4:=hE.lt (k:=k + 3) (by omega) (by rw [h4]; simp)
     split
     ·rename_i h5
      have k5:=hE.ltk (k:=k + 4) (by omega) (isVar_k h5)
      split
      ·rename_i h6
       have k6:=hE.lt (k:=k + 5) (by omega) (by rw [h6]; simp)
       exact ⟨by omega,by omega,fun _ => by omega⟩
      ·exact ⟨by omega,by omega,.inl rfl⟩
     ·exact ⟨by omega,by omega,.inl rfl⟩
    ·exact ⟨by omega,by omega,.inl rfl⟩
   ·exact ⟨by omega,by omega,.inl rfl⟩
  ·exact ⟨by omega,by omega,fun _ => by omega⟩
 ·exact ⟨by omega,by omega,.inl rfl⟩
theorem inO_up {z k k':Nat} {b b':Bool} {x:Ot} (h:inO z k' b x) (hk:k <= k') (hb:b' = true -> k < k' ∨ b = true):inO z k b' x:=by
 cases x with
 | ok o k2 => exact ⟨by have:=h.1; omega,h.2.1,fun e => by rcases hb e with h2 | h2; have:=h.1; omega; have:=h.2.2 h2; omega⟩
 | bad k2 e => exact ⟨by have:=h.1; omega,h.2.1,h.2.2⟩
theorem thenO_in {z k k':Nat} {b b':Bool} {r:Option Ot} {f:Ob -> Nat -> Option Ot} {x:Ot} (h:thenO r f = some x) (hk:k <= k') (hr:∀ y,r = some y -> inO z k' b y) (hf:∀ o k2,k' <= k2 -> k2 <= z -> (b = true -> k' < k2) -> f o k2 = some x -> inO z k b' x):inO z k b' x:=by
 rcases thenO_some h with ⟨o,k2,h1,h2⟩ | ⟨k2,e,h1,rfl⟩
 ·have:=hr _ h1
  exact hf o k2 this.1 this.2.1 this.2.2 h2
 ·have:=hr _ h1
  exact ⟨by have:=this.1; omega,this.2.1,this.2.2⟩
theorem run_iz {metas:Bool} {ts:List Tok} {z:Nat} (hE:Ends ts z):∀ (n:Nat) (g:Gl) (k s:Nat) (x:Ot),k <= z -> run metas ts n g k s = some x -> inO z k (isBin g) x
 | 0,g,k,s,x,_,h => by cases h
 | n + 1,g,k,s,x,hk,h => by
  have ih:=run_iz (metas:=metas) hE n
  cases g with
  | bin i =>
   unfold run at h
   split at h
   ·refine thenO_in (b':=true) h (Nat.le_refl _) (fun y hy => ih (.bin (i + 1)) _ _ _ hk hy) fun o k1 a1 a2 a3 h => ?_
    have a3:=a3 rfl
    split at h
    ·split at h
     ·rename_i ht
      have k2:=hE.lt a2 (by rw [ht]; exact lvS_ne i)
      refine thenO_in (b':=true) h (show k <= k1 + 1 by omega) (fun y hy => ih (.bin i) _ _ _ (by omega) hy) fun o2 k3 b1 b2 b3 h => ?_
      cases h
      exact ⟨by omega,b2,fun _ => by omega⟩
     ·cases h
      exact ⟨by omega,a2,fun _ => a3⟩
    ·exact inO_up (ih (.loop i _) _ _ _ a2 h) a1 fun _ => .inl a3
   ·exact ih .un _ _ _ hk h
  | loop i f =>
   unfold run at h
   split at h
   ·rename_i ht
    have k2:=hE.lt hk (by rw [ht]; exact lvS_ne i)
    refine thenO_in (b':=false) h (show k <= k + 1 by omega) (fun y hy => ih (.bin (i + 1)) _ _ _ (by omega) hy) fun o k3 b1 b2 b3 h => ?_
    exact inO_up (ih (.loop i _) _ _ _ b2 h) (by omega) fun e => by cases e
   ·cases h
    exact ⟨Nat.le_refl _,hk,fun e => by cases e⟩
  | un =>
   unfold run at h
   split at h
   ·cases h; exact ⟨Nat.le_refl _,hk,.inr rfl⟩
   ·cases ho:unO (txt ts k) with
    | none => rw [ho] at h; exact ih .basic _ _ _ hk h
    | some op =>
     rw [ho] at h
     have k1:=hE.lt hk (unO_ne ho)
     simp only [] at h
     split at h
     ·split at h
      ·rename_i hv
       have k2:=hE.ltk (k:=k + 1) (by omega) (isVar_k hv)
       refine thenO_in (b':=true) h (show k <= k + 2 by omega) (fun y hy => ih .un _ _ _ (by omega) hy) fun o k3 b1 b2 b3 h => ?_
       cases h
       exact ⟨by omega,b2,fun _ => by omega⟩
      ·cases h; exact ⟨by omega,by omega,.inl rfl⟩
     ·refine thenO_in (b':=true) h (show k <= k + 1 by omega) (fun y hy => ih .un _ _ _ (by omega) hy) fun o k3 b1 b2 b3 h => ?_
      cases h
      exact ⟨by omega,b2,fun _ => by omega⟩
  | basic =>
   unfold run at h
   split at h
   ·rename_i h1
    have k1:=hE.lt hk (by rw [h1]; simp)
    refine thenO_in (b':=true) h (show k <= k + 1 by omega) (fun y hy => ih (.bin 0) _ _ _ (by omega) hy) fun o k3 b1 b2 b3 h => ?_
    split at h
    ·rename_i h2
     have k4:=hE.lt b2 (by rw [h2]; simp)
     cases h
     exact ⟨by omega,by omega,fun _ => by omega⟩
    ·cases h; exact ⟨by omega,b2,.inl rfl⟩
   ·split at h
    ·rename_i h2
     have k1:=hE.lt hk (by rw [h2]; simp)
     cases h
     exact ⟨by omega,by omega,fun _ => by omega⟩
    ·split at h
     ·cases h; exact metaP_in hE hk
     ·split at h
      ·rename_i h4
       have k1:=hE.ltk hk (isPre_k h4)
       refine thenO_in (b':=true) h (show k <= k + 1 by omega) (fun y hy => ih .args _ _ _ (by omega) hy) fun o k3 b1 b2 b3 h => ?_
       cases h
       exact ⟨by omega,b2,fun _ => by omega⟩
      ·cases h; exact ⟨Nat.le_refl _,hk,.inl rfl⟩
  | args =>
   unfold run at h
   split at h
   ·rename_i h1
    have k1:=hE.lt hk (by rw [h1]; simp)
    refine thenO_in (b':=false) h (show k <= k + 1 by omega) (fun y hy => ih (.list []) _ _ _ (by omega) hy) fun o k3 b1 b2 b3 h => ?_
    split at h
    ·rename_i h2
     have k4:=hE.lt b2 (by rw [h2]; simp)
     cases h
     exact ⟨by omega,by omega,fun e => by cases e⟩
    ·cases h; exact ⟨by omega,b2,.inl rfl⟩
   ·cases h; exact ⟨Nat.le_refl _,hk,fun e => by cases e⟩
  | list acc =>
   unfold run at h
   refine thenO_in (b':=true) h (Nat.le_refl _) (fun y hy => ih .term _ _ _ hk hy) fun o k3 b1 b2 b3 h => ?_
   have b3:=b3 rfl
   split at h
   ·rename_i h2
    have k4:=hE.lt b2 (by rw [h2]; simp)
    exact inO_up (ih (.list _) _ _ _ (by omega) h) (by omega) fun _ => .inl (by omega)
   ·cases h; exact ⟨by omega,b2,fun _ => b3⟩
  | term =>
   unfold run at h
   split at h
   ·cases h; exact ⟨Nat.le_refl _,hk,.inr rfl⟩
   ·split at h
    ·split at h
     ·rename_i h1
      have k1:=hE.ltk hk (isTM_k h1)
      cases h; exact ⟨by omega,by omega,fun _ => by omega⟩
     ·cases h; exact ⟨Nat.le_refl _,hk,.inl rfl⟩
    ·split at h
     ·rename_i h1
      have k1:=hE.ltk hk (isVar_k h1)
      cases h; exact ⟨by omega,by omega,fun _ => by omega⟩
     ·split at h
      ·rename_i h1
       have k1:=hE.ltk hk (isFun_k h1)
       refine thenO_in (b':=true) h (show k <= k + 1 by omega) (fun y hy => ih .args _ _ _ (by omega) hy) fun o k3 b1 b2 b3 h => ?_
       cases h
       exact ⟨by omega,b2,fun _ => by omega⟩
      ·cases h; exact ⟨Nat.le_refl _,hk,.inl rfl⟩
def rank:Gl -> Nat
 | .bin i => 9 - i
 | .loop _ _ => 0
 | .un => 3
 | .basic => 2
 | .args => 0
 | .list _ => 2
 | .term => 1
theorem thenO_total {z k:Nat} {b:Bool} {r:Option Ot} {f:Ob -> Nat -> Option Ot} (h:∃ y,r = some y) (hr:∀ y,r = some y -> inO z k b y) (hf:∀ o k2,k <= k2 -> k2 <= z -> (b = true -> k < k2) -> ∃ y,f o k2 = some y):∃ y,thenO r f = some y:=by
 obtain ⟨y,hy⟩:=h
 rw [hy]
 have:=hr y hy
 cases y with
 | ok o k2 => exact hf o k2 this.1 this.2.1 this.2.2
 | bad k2 e => exact ⟨_,rfl⟩
theorem run_total {metas:Bool} {ts:List Tok} {z:Nat} (hE:Ends ts z):∀ (m:Nat) (g:Gl) (k s:Nat),k <= z -> (match g with | .bin i => i <= 5 | .loop i _ => i <= 4 | _ => True) -> 10 * (z - k) + rank g < m -> ∃ x,run metas ts m g k s = some x
 | 0,g,k,s,hk,hg,hm => by omega
 | m + 1,g,k,s,hk,hg,hm => by
  have ih:=run_total (metas:=metas) hE m
  have hin:=run_iz (metas:=metas) hE m
  cases g with
  | bin i =>
   unfold run
   simp only [rank] at hm hg
   split
   ·rename_i h5
    refine thenO_total (ih (.bin (i + 1)) k s hk (by simp only []; omega) (by simp only [rank]; omega)) (fun y hy => hin (.bin (i + 1)) _ _ _ hk hy) fun o k1 a1 a2 a3 => ?_
    have a3:=a3 rfl
    split
    ·split
     ·rename_i ht
      have k2:=hE.lt a2 (by rw [ht]; exact lvS_ne i)
      exact thenO_total (ih (.bin i) (k1 + 1) (s + 1) (by omega) hg (by simp only [rank]; omega)) (fun y hy => hin (.bin i) _ _ _ (by omega) hy) fun o k2 _ _ _ => ⟨_,rfl⟩
     ·exact ⟨_,rfl⟩
    ·exact ih (.loop i _) k1 s a2 (by simp only []; omega) (by simp only [rank]; omega)
   ·rename_i h5
    exact ih .un k s hk trivial (by simp only [rank]; omega)
  | loop i f =>
   unfold run
   simp only [rank] at hm hg
   split
   ·rename_i ht
    have k2:=hE.lt hk (by rw [ht]; exact lvS_ne i)
    refine thenO_total (ih (.bin (i + 1)) (k + 1) s (by omega) (by simp only []; omega) (by simp only [rank]; omega)) (fun y hy => hin (.bin (i + 1)) _ _ _ (by omega) hy) fun o k2 b1 b2 b3 => ?_
    exact ih (.loop i _) k2 s b2 hg (by simp only [rank]; omega)
   ·exact ⟨_,rfl⟩
  | un =>
   unfold run
   simp only [rank] at hm
   split
   ·exact ⟨_,rfl⟩
   ·cases ho:unO (txt ts k) with
    | none => exact ih .basic k s hk trivial (by simp only [rank]; omega)
    | some op =>
     have k1:=hE.lt hk (unO_ne ho)
     simp only []
     split
     ·split
      ·rename_i hv
       have k2:=hE.ltk (k:=k + 1) (by omega) (isVar_k hv)
       exact thenO_total (ih .un (k + 2) (s + 1) (by omega) trivial (by simp only [rank]; omega)) (fun y hy => hin .un _ _ _ (by omega) hy) fun o k2 _ _ _ => ⟨_,rfl⟩
      ·exact ⟨_,rfl⟩
     ·exact thenO_total (ih .un (k + 1) (s + 1) (by omega) trivial (by simp only [rank]; omega)) (fun y hy => hin .un _ _ _ (by omega) hy) fun o k2 _ _ _ => ⟨_,rfl⟩
  | basic =>
   unfold run
   simp only [rank] at hm
   split
   ·rename_i h1
    have k1:=hE.lt hk (by rw [h1]; simp)
    refine thenO_total (ih (.bin 0) (k + 1) (s + 1) (by omega) (by simp) (by simp only [rank]; omega)) (fun y hy => hin (.bin 0) _ _ _ (by omega) hy) fun o k2 _ _ _ => ?_
    split <;> exact ⟨_,rfl⟩
   ·split
    ·exact ⟨_,rfl⟩
    ·split
     ·exact ⟨_,rfl⟩
     ·split
      ·rename_i h4
       have k1:=hE.ltk hk (isPre_k h4)
       exact thenO_total (ih .args (k + 1) s (by omega) trivial (by simp only [rank]; omega)) (fun y hy => hin .args _ _ _ (by omega) hy) fun o k2 _ _ _ => ⟨_,rfl⟩
      ·exact ⟨_,rfl⟩
  | args =>
   unfold run
   simp only [rank] at hm
   split
   ·rename_i h1
    have k1:=hE.lt hk (by rw [h1]; simp)
    refine thenO_total (ih (.list []) (k + 1) (s + 1) (by omega) trivial (by simp only [rank]; omega)) (fun y hy => hin (.list []) _ _ _ (by omega) hy) fun o k2 _ _ _ => ?_
    split <;> exact ⟨_,rfl⟩
   ·exact ⟨_,rfl⟩
  | list acc =>
   unfold run
   simp only [rank] at hm
   refine thenO_total (ih .term k s hk trivial (by simp only [rank]; omega)) (fun y hy => hin .term _ _ _ hk hy) fun o k2 b1 b2 b3 => ?_
   have b3:=b3 rfl
   split
   ·rename_i h2
    have k4:=hE.lt b2 (by rw [h2]; simp)
    exact ih (.list _) (k2 + 1) s (by omega) trivial (by simp only [rank]; omega)
   ·exact ⟨_,rfl⟩
  | term =>
   unfold run
   simp only [rank] at hm
   split
   ·exact ⟨_,rfl⟩
   ·split
    ·split <;> exact ⟨_,rfl⟩
    ·split
     ·exact ⟨_,rfl⟩
     ·split
      ·rename_i h1
       have k1:=hE.ltk hk (isFun_k h1)
       exact thenO_total (ih .args (k + 1) s (by omega) trivial (by simp only [rank]; omega)) (fun y hy => hin .args _ _ _ (by omega) hy) fun o k2 _ _ _ => ⟨_,rfl⟩
      ·exact ⟨_,rfl⟩
end Go.Proofs.YtdobflpbkfkmgaaGreatDoor
namespace Go.Proofs.YtdobflpbkfkmgaaGreatDoor
open Go Go.RowKit Go.FR
set_option linter.unusedVariables false
set_option linter.unusedSimpArgs false
set_option linter.unusedSectionVars false
def gty:Gl -> Nat
 | .args => 1
 | .list _ => 1
 | .term => 2
 | _ => 0
def oty:Ob -> Nat
 | .fm _ => 0
 | .ts _ => 1
 | .t _ => 2
def tyO (n:Nat):Ot -> Prop
 | .ok o _ => oty o = n
 | .bad _ _ => True
theorem thenO_ty {n:Nat} {r:Option Ot} {f:Ob -> Nat -> Option Ot} {x:Ot} (h:thenO r f = some x) (hf:∀ o k,r = some (.ok o k) -> f o k = some x -> tyO n x):tyO n x:=by
 rcases thenO_some h with ⟨o,k,h1,h2⟩ | ⟨k,e,h1,rfl⟩
 ·exact hf o k h1 h2
 ·trivial
theorem metaP_ty (m:Bool) (ts:List Tok) (k:Nat):tyO 0 (metaP m ts k):=by
 unfold metaP
 split <;> (try split) <;> (try split) <;> (try split) <;> (try split) <;> (try split) <;> first | rfl | trivial
theorem run_ty (m:Bool) (ts:List Tok):∀ (n:Nat) (g:Gl) (k s:Nat) (x:Ot),run m ts n g k s = some x -> tyO (gty g) x
 | 0,g,k,s,x,h => by cases h
 | n + 1,g,k,s,x,h => by
  have ih:=run_ty m ts n
  cases g with
  | bin i =>
   unfold run at h
   split at h
   ·refine thenO_ty h fun o k1 _ h => ?_
    split at h
    ·split at h
     ·refine thenO_ty h fun o k1 _ h => ?_
      cases h; rfl
     ·cases h; rfl
    ·exact ih (.loop i _) _ _ _ h
   ·exact ih .un _ _ _ h
  | loop i f =>
   unfold run at h
   split at h
   ·refine thenO_ty h fun o k1 _ h => ?_
    have h2:=ih _ _ _ _ h
    exact h2
   ·cases h; rfl
  | un =>
   unfold run at h
   split at h
   ·cases h; trivial
   ·split at h
    ·exact ih .basic _ _ _ h
    ·split at h
     ·split at h
      ·refine thenO_ty h fun o k1 _ h => ?_
       cases h; rfl
      ·cases h; trivial
     ·refine thenO_ty h fun o k1 _ h => ?_
      cases h; rfl
  | basic =>
   unfold run at h
   split at h
   ·refine thenO_ty h fun o k1 _ h => ?_
    split at h <;> cases h
    ·rfl
    ·trivial
   ·split at h
    ·cases h; rfl
    ·split at h
     ·cases h; exact metaP_ty m ts k
     ·split at h
      ·refine thenO_ty h fun o k1 _ h => ?_
       cases h; rfl
      ·cases h; trivial
  | args =>
   unfold run at h
   split at h
   ·refine thenO_ty h fun o k1 _ h => ?_
    split at h <;> cases h
    ·rfl
    ·trivial
   ·cases h; rfl
  | list acc =>
   unfold run at h
   refine thenO_ty h fun o k1 _ h => ?_
   split at h
   ·have h2:=ih _ _ _ _ h
    exact h2
   ·cases h; rfl
  | term =>
   unfold run at h
   split at h
   ·cases h; trivial
   ·split at h
    ·split at h <;> cases h
     ·rfl
     ·trivial
    ·split at h
     ·cases h; rfl
     ·split at h
      ·refine thenO_ty h fun o k1 _ h => ?_
       cases h; rfl
      ·cases h; trivial
theorem ty_fm {o:Ob} (h:oty o = 0):o = .fm (fmO o):=by cases o <;> first | rfl | cases h
theorem ty_ts {o:Ob} (h:oty o = 1):o = .ts (tsO o):=by cases o <;> first | rfl | cases h
theorem ty_t {o:Ob} (h:oty o = 2):o = .t (tO o):=by cases o <;> first | rfl | cases h
end Go.Proofs.YtdobflpbkfkmgaaGreatDoor
