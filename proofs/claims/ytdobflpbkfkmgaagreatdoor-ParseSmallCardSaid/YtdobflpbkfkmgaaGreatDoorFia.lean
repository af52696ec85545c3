import Derived.Test.YtdobflpbkfkmgaaGreatDoorMps
namespace Go.Proofs.YtdobflpbkfkmgaaGreatDoor
open Go Go.RowKit Go.FR
set_option linter.unusedVariables false
set_option linter.unusedSimpArgs false
set_option linter.unusedSectionVars false
def plO:Ot -> Nat
 | .ok _ k => k
 | .bad k _ => k
theorem metaP_ge (m:Bool) (ts:List Tok) (k:Nat):k <= plO (metaP m ts k):=by
 unfold metaP
 split <;> (try split) <;> (try split) <;> (try split) <;> (try split) <;> (try split) <;> (simp only [plO]; omega)
theorem thenO_ge {k:Nat} {r:Option Ot} {f:Ob -> Nat -> Option Ot} {x:Ot} (h:thenO r f = some x) (hr:∀ y,r = some y -> k <= plO y) (hf:∀ o k1,k <= k1 -> f o k1 = some x -> k <= plO x):k <= plO x:=by
 rcases thenO_some h with ⟨o,k1,h1,h2⟩ | ⟨k1,e,h1,rfl⟩
 ·exact hf o k1 (hr _ h1) h2
 ·exact hr _ h1
theorem run_ge (m:Bool) (ts:List Tok):∀ (n:Nat) (g:Gl) (k s:Nat) (x:Ot),run m ts n g k s = some x -> k <= plO x
 | 0,g,k,s,x,h => by cases h
 | n + 1,g,k,s,x,h => by
  have ih:=run_ge m ts n
  cases g with
  | bin i =>
   unfold run at h
   split at h
   ·refine thenO_ge h (fun y hy => ih _ _ _ _ hy) fun o k1 hk h => ?_
    split at h
    ·split at h
     ·refine thenO_ge h (fun y hy => Nat.le_trans (by omega) (ih _ _ _ _ hy)) fun o k2 hk2 h => ?_
      cases h; exact hk2
     ·cases h; exact hk
    ·exact Nat.le_trans hk (ih _ _ _ _ h)
   ·exact ih _ _ _ _ h
  | loop i f =>
   unfold run at h
   split at h
   ·refine thenO_ge h (fun y hy => Nat.le_trans (by omega) (ih _ _ _ _ hy)) fun o k1 hk h => ?_
    exact Nat.le_trans hk (ih _ _ _ _ h)
   ·cases h; exact Nat.le_refl _
  | un =>
   unfold run at h
   split at h
   ·cases h; exact Nat.le_refl _
   ·split at h
    ·exact ih _ _ _ _ h
    ·split at h
     ·split at h
      ·refine thenO_ge h (fun y hy => Nat.le_trans (by omega) (ih _ _ _ _ hy)) fun o k1 hk h => ?_
       cases h; exact hk
      ·cases h; exact Nat.le_succ _
     ·refine thenO_ge h (fun y hy => Nat.le_trans (by omega) (ih _ _ _ _ hy)) fun o k1 hk h => ?_
      cases h; exact hk
  | basic =>
   unfold run at h
   split at h
   ·refine thenO_ge h (fun y hy => Nat.le_trans (by omega) (ih _ _ _ _ hy)) fun o k1 hk h => ?_
    split at h <;> cases h
    ·exact Nat.le_succ_of_le hk
    ·exact hk
   ·split at h
    ·cases h; exact Nat.le_succ _
    ·split at h
     ·cases h; exact metaP_ge m ts k
     ·split at h
      ·refine thenO_ge h (fun y hy => Nat.le_trans (by omega) (ih _ _ _ _ hy)) fun o k1 hk h => ?_
       cases h; exact hk
      ·cases h; exact Nat.le_refl _
  | args =>
   unfold run at h
   split at h
   ·refine thenO_ge h (fun y hy => Nat.le_trans (by omega) (ih _ _ _ _ hy)) fun o k1 hk h => ?_
    split at h <;> cases h
    ·exact Nat.le_succ_of_le hk
    ·exact hk
   ·cases h; exact Nat.le_refl _
  | list acc =>
   unfold run at h
   refine thenO_ge h (fun y hy => ih _ _ _ _ hy) fun o k1 hk h => ?_
   split at h
   ·exact Nat.le_trans (by omega) (ih _ _ _ _ h)
   ·cases h; exact hk
  | term =>
   unfold run at h
   split at h
   ·cases h; exact Nat.le_refl _
   ·split at h
    ·split at h <;> cases h
     ·exact Nat.le_succ _
     ·exact Nat.le_refl _
    ·split at h
     ·cases h; exact Nat.le_succ _
     ·split at h
      ·refine thenO_ge h (fun y hy => Nat.le_trans (by omega) (ih _ _ _ _ hy)) fun o k1 hk h => ?_
       cases h; exact hk
      ·cases h; exact Nat.le_refl _
def Agr (K:Nat) (ts us:List Tok):Prop:=∀ j,j < K -> (tkA ts j).k = (tkA us j).k /\ (tkA ts j).t = (tkA us j).t
theorem Agr.txt {K:Nat} {ts us:List Tok} (hA:Agr K ts us) {k:Nat} (h:k < K):txt us k = txt ts k:=by unfold _root_.Go.Proofs.YtdobflpbkfkmgaaGreatDoor.txt; rw [(hA k h).2]
theorem Agr.kd {K:Nat} {ts us:List Tok} (hA:Agr K ts us) {k:Nat} (h:k < K):(tkA us k).k = (tkA ts k).k:=((hA k h).1).symm
theorem Agr.tx {K:Nat} {ts us:List Tok} (hA:Agr K ts us) {k:Nat} (h:k < K):(tkA us k).t = (tkA ts k).t:=((hA k h).2).symm
theorem Agr.var {K:Nat} {ts us:List Tok} (hA:Agr K ts us) {k:Nat} (h:k < K):isVar us k = isVar ts k:=by unfold isVar; rw [hA.kd h,hA.tx h]
theorem Agr.fn {K:Nat} {ts us:List Tok} (hA:Agr K ts us) {k:Nat} (h:k < K):isFun us k = isFun ts k:=by unfold isFun; rw [hA.kd h,hA.tx h]
theorem Agr.pre {K:Nat} {ts us:List Tok} (hA:Agr K ts us) {k:Nat} (h:k < K):isPre us k = isPre ts k:=by unfold isPre; rw [hA.kd h,hA.tx h]
theorem Agr.fm {K:Nat} {ts us:List Tok} (hA:Agr K ts us) {k:Nat} (h:k < K) (m:Bool):isFM m us k = isFM m ts k:=by unfold isFM; rw [hA.kd h,hA.tx h]
theorem Agr.tm {K:Nat} {ts us:List Tok} (hA:Agr K ts us) {k:Nat} (h:k < K) (m:Bool):isTM m us k = isTM m ts k:=by unfold isTM; rw [hA.kd h,hA.tx h]
end Go.Proofs.YtdobflpbkfkmgaaGreatDoor
