import Derived.Test.YtdobflpbkfkmgaaGreatDoorFia
namespace Go.Proofs.YtdobflpbkfkmgaaGreatDoor
open Go Go.RowKit Go.FR
set_option linter.unusedVariables false
set_option linter.unusedSimpArgs false
set_option linter.unusedSectionVars false
def cutO (K:Nat) (x:Ot):Ot:=if plO x <= K then x else .bad K 50
theorem cut_ok {K k:Nat} (o:Ob) (h:k <= K):cutO K (.ok o k) = .ok o k:=if_pos h
theorem cut_bad {K k:Nat} (e:Nat) (h:k <= K):cutO K (.bad k e) = .bad k e:=if_pos h
theorem cut_gt {K:Nat} {x:Ot} (h:K < plO x):cutO K x = .bad K 50:=if_neg (by omega)
theorem thenO_cut {K:Nat} {r r':Option Ot} {f f':Ob -> Nat -> Option Ot} {x:Ot} (h:thenO r f = some x) (hr:∀ y,r = some y -> r' = some (cutO K y)) (hg:∀ o k1,f o k1 = some x -> k1 <= plO x)
  (hf:∀ o k1,k1 <= K -> f o k1 = some x -> f' o k1 = some (cutO K x)):thenO r' f' = some (cutO K x):=by
 rcases thenO_some h with ⟨o,k1,h1,h2⟩ | ⟨k1,e,h1,rfl⟩
 ·have h3:=hr _ h1
  by_cases hk:k1 <= K
  ·rw [cut_ok o hk] at h3
   rw [h3]
   exact hf o k1 hk h2
  ·rw [cut_gt (show K < plO (.ok o k1) by simp only [plO]; omega)] at h3
   rw [h3,cut_gt (by have:=hg _ _ h2; omega)]
   rfl
 ·rw [hr _ h1]
  by_cases hk:k1 <= K
  ·rw [cut_bad e hk]; rfl
  ·rw [cut_gt (show K < plO (.bad k1 e) by simp only [plO]; omega)]; rfl
section
variable {K:Nat} {ts:List Tok}
structure Mta (K:Nat) (ts:List Tok):Prop where
 no:∀ j,j < K -> (tkA ts j).k ≠ 2
 k:(tkA ts K).k = 2
 tx:∃ r,txt ts K = 63 :: r
theorem Mta.lt (h:Mta K ts) {k:Nat} {c:UInt8} {r:List UInt8} (hk:k <= K) (ht:txt ts k = c :: r) (hc:c ≠ 63):k < K:=by
 rcases Nat.lt_or_ge k K with h1 | h1
 ·exact h1
 ·obtain rfl:k = K:=by omega
  obtain ⟨r',e⟩:=h.tx
  rw [ht] at e
  cases e
  exact absurd rfl hc
theorem Mta.lv (h:Mta K ts) {k i:Nat} (hk:k <= K) (ht:txt ts k = lvS i):k < K:=by
 unfold lvS at ht
 split at ht <;> (try split at ht) <;> (try split at ht) <;> (try split at ht) <;> exact h.lt hk ht (by decide)
theorem unO_63 (r:List UInt8):unO (63 :: r) = none:=by
 cases h:unO (63 :: r) with
 | none => rfl
 | some op =>
  unfold unO at h
  simp at h
theorem Mta.un (h:Mta K ts) {k op:Nat} (hk:k <= K) (ht:unO (txt ts k) = some op):k < K:=by
 rcases Nat.lt_or_ge k K with h1 | h1
 ·exact h1
 ·obtain rfl:k = K:=by omega
  obtain ⟨r',e⟩:=h.tx
  rw [e,unO_63] at ht
  cases ht
theorem Mta.kd (h:Mta K ts) {k:Nat} (hk:k <= K) (ht:(tkA ts k).k = 2):k = K:=by
 rcases Nat.lt_or_ge k K with h1 | h1
 ·exact absurd ht (h.no k h1)
 ·omega
theorem Mta.var (h:Mta K ts) {k:Nat} (hk:k <= K) (ht:isVar ts k = true):k < K:=by
 rcases Nat.lt_or_ge k K with h1 | h1
 ·exact h1
 ·obtain rfl:k = K:=by omega
  simp [isVar,h.k] at ht
theorem Mta.fn (h:Mta K ts) {k:Nat} (hk:k <= K) (ht:isFun ts k = true):k < K:=by
 rcases Nat.lt_or_ge k K with h1 | h1
 ·exact h1
 ·obtain rfl:k = K:=by omega
  simp [isFun,h.k] at ht
theorem Mta.pre (h:Mta K ts) {k:Nat} (hk:k <= K) (ht:isPre ts k = true):k < K:=by
 rcases Nat.lt_or_ge k K with h1 | h1
 ·exact h1
 ·obtain rfl:k = K:=by omega
  simp [isPre,h.k] at ht
theorem metaP_cut (K:Nat):cutO K (metaP true ts K) = .bad K 50:=by
 unfold metaP
 by_cases h0:isFM true ts K = true
 ·rw [if_pos h0]
  refine cut_gt ?_
  split <;> (try split) <;> (try split) <;> (try split) <;> (try split) <;> (simp only [plO]; omega)
 ·rw [if_neg h0]; exact cut_bad _ (Nat.le_refl _)
theorem run_mta (hM:Mta K ts):∀ (n:Nat) (g:Gl) (k s:Nat) (x:Ot),k <= K -> run true ts n g k s = some x -> run false ts n g k s = some (cutO K x)
 | 0,g,k,s,x,hk,h => by cases h
 | n + 1,g,k,s,x,hk0,h => by
  have ih:=run_mta hM n
  have ge:=run_ge true ts n
  cases g with
  | bin i =>
   unfold run at h ⊢
   by_cases hi:i < 5
   ·rw [if_pos hi] at h ⊢
    refine thenO_cut h (fun y hy => ih _ _ _ _ hk0 hy) (fun o k1 e => ?_) fun o k1 hk1 e => ?_
    ·split at e
     ·split at e
      ·refine thenO_ge e (fun y hy => Nat.le_trans (by omega) (ge _ _ _ _ hy)) fun o k2 hk2 h => ?_
       cases h; exact hk2
      ·cases e; exact Nat.le_refl _
     ·exact ge _ _ _ _ e
    ·by_cases hr:lvR i = true
     ·rw [if_pos hr] at e ⊢
      by_cases ht:_root_.Go.Proofs.YtdobflpbkfkmgaaGreatDoor.txt ts k1 = lvS i
      ·rw [if_pos ht] at e ⊢
       have hlt:=hM.lv hk1 ht
       refine thenO_cut e (fun y hy => ih _ _ _ _ hlt hy) (fun o k h => by cases h; exact Nat.le_refl _) fun o2 k2 hk2 e => ?_
       cases e; rw [cut_ok _ hk2]
      ·rw [if_neg ht] at e ⊢; cases e; rw [cut_ok _ hk1]
     ·rw [if_neg hr] at e ⊢; exact ih _ _ _ _ hk1 e
   ·rw [if_neg hi] at h ⊢; exact ih _ _ _ _ hk0 h
  | loop i f =>
   unfold run at h ⊢
   by_cases ht:_root_.Go.Proofs.YtdobflpbkfkmgaaGreatDoor.txt ts k = lvS i
   ·rw [if_pos ht] at h ⊢
    have hlt:=hM.lv hk0 ht
    exact thenO_cut h (fun y hy => ih _ _ _ _ hlt hy) (fun o k1 e => ge _ _ _ _ e) fun o k1 hk1 e => ih _ _ _ _ hk1 e
   ·rw [if_neg ht] at h ⊢; cases h; rw [cut_ok _ hk0]
  | un =>
   unfold run at h ⊢
   by_cases hs:120 < s
   ·rw [if_pos hs] at h ⊢; cases h; rw [cut_bad _ hk0]
   rw [if_neg hs] at h ⊢
   cases hu:unO (_root_.Go.Proofs.YtdobflpbkfkmgaaGreatDoor.txt ts k) with
   | none => rw [hu] at h; simp only at h ⊢; exact ih _ _ _ _ hk0 h
   | some op =>
    rw [hu] at h
    have hlt:=hM.un hk0 hu
    simp only at h ⊢
    by_cases ho:op = 8 ∨ op = 9
    ·rw [if_pos ho] at h ⊢
     by_cases hv:isVar ts (k + 1) = true
     ·rw [if_pos hv] at h ⊢
      have hl2:=hM.var hlt hv
      refine thenO_cut h (fun y hy => ih _ _ _ _ hl2 hy) (fun o k h => by cases h; exact Nat.le_refl _) fun o2 k2 hk2 e => ?_
      cases e; rw [cut_ok _ hk2]
     ·rw [if_neg hv] at h ⊢; cases h; rw [cut_bad _ hlt]
    ·rw [if_neg ho] at h ⊢
     refine thenO_cut h (fun y hy => ih _ _ _ _ hlt hy) (fun o k h => by cases h; exact Nat.le_refl _) fun o2 k2 hk2 e => ?_
     cases e; rw [cut_ok _ hk2]
  | basic =>
   unfold run at h ⊢
   by_cases h1:_root_.Go.Proofs.YtdobflpbkfkmgaaGreatDoor.txt ts k = [40]
   ·rw [if_pos h1] at h ⊢
    have hlt:=hM.lt hk0 h1 (by decide)
    refine thenO_cut h (fun y hy => ih _ _ _ _ hlt hy) (fun o k2 e => ?_) fun o2 k2 hk2 e => ?_
    ·split at e <;> cases e
     ·exact Nat.le_succ _
     ·exact Nat.le_refl _
    ·by_cases ht:_root_.Go.Proofs.YtdobflpbkfkmgaaGreatDoor.txt ts k2 = [41]
     ·rw [if_pos ht] at e ⊢; cases e; rw [cut_ok _ (hM.lt hk2 ht (by decide))]
     ·rw [if_neg ht] at e ⊢; cases e; rw [cut_bad _ hk2]
   rw [if_neg h1] at h ⊢
   by_cases h2:_root_.Go.Proofs.YtdobflpbkfkmgaaGreatDoor.txt ts k = [102,97,108,115,101]
   ·rw [if_pos h2] at h ⊢; cases h; rw [cut_ok _ (hM.lt hk0 h2 (by decide))]
   rw [if_neg h2] at h ⊢
   by_cases h3:(tkA ts k).k = 2
   ·rw [if_pos h3] at h ⊢
    obtain rfl:=hM.kd hk0 h3
    cases h
    rw [metaP_cut]
    unfold metaP
    rw [isFM_false,if_neg (by decide)]
   rw [if_neg h3] at h ⊢
   by_cases h4:isPre ts k = true
   ·rw [if_pos h4] at h ⊢
    refine thenO_cut h (fun y hy => ih _ _ _ _ (hM.pre hk0 h4) hy) (fun o k h => by cases h; exact Nat.le_refl _) fun o2 k2 hk2 e => ?_
    cases e; rw [cut_ok _ hk2]
   ·rw [if_neg h4] at h ⊢; cases h; rw [cut_bad _ hk0]
  | args =>
   unfold run at h ⊢
   by_cases h1:_root_.Go.Proofs.YtdobflpbkfkmgaaGreatDoor.txt ts k = [40]
   ·rw [if_pos h1] at h ⊢
    have hlt:=hM.lt hk0 h1 (by decide)
    refine thenO_cut h (fun y hy => ih _ _ _ _ hlt hy) (fun o k2 e => ?_) fun o2 k2 hk2 e => ?_
    ·split at e <;> cases e
     ·exact Nat.le_succ _
     ·exact Nat.le_refl _
    ·by_cases ht:_root_.Go.Proofs.YtdobflpbkfkmgaaGreatDoor.txt ts k2 = [41]
     ·rw [if_pos ht] at e ⊢; cases e; rw [cut_ok _ (hM.lt hk2 ht (by decide))]
     ·rw [if_neg ht] at e ⊢; cases e; rw [cut_bad _ hk2]
   ·rw [if_neg h1] at h ⊢; cases h; rw [cut_ok _ hk0]
  | list acc =>
   unfold run at h ⊢
   refine thenO_cut h (fun y hy => ih _ _ _ _ hk0 hy) (fun o k2 e => ?_) fun o2 k2 hk2 e => ?_
   ·split at e
    ·exact Nat.le_trans (by omega) (ge _ _ _ _ e)
    ·cases e; exact Nat.le_refl _
   ·by_cases ht:_root_.Go.Proofs.YtdobflpbkfkmgaaGreatDoor.txt ts k2 = [44]
    ·rw [if_pos ht] at e ⊢; exact ih _ _ _ _ (hM.lt hk2 ht (by decide)) e
    ·rw [if_neg ht] at e ⊢; cases e; rw [cut_ok _ hk2]
  | term =>
   unfold run at h ⊢
   by_cases hs:120 < s
   ·rw [if_pos hs] at h ⊢; cases h; rw [cut_bad _ hk0]
   rw [if_neg hs] at h ⊢
   by_cases h1:(tkA ts k).k = 2
   ·rw [if_pos h1] at h ⊢
    obtain rfl:=hM.kd hk0 h1
    rw [isTM_false,if_neg (by decide)]
    by_cases h2:isTM true ts k = true
    ·rw [if_pos h2] at h; cases h; rw [cut_gt (by simp only [plO]; omega)]
    ·rw [if_neg h2] at h; cases h; rw [cut_bad _ hk0]
   rw [if_neg h1] at h ⊢
   by_cases h2:isVar ts k = true
   ·rw [if_pos h2] at h ⊢; cases h; rw [cut_ok _ (hM.var hk0 h2)]
   rw [if_neg h2] at h ⊢
   by_cases h3:isFun ts k = true
   ·rw [if_pos h3] at h ⊢
    refine thenO_cut h (fun y hy => ih _ _ _ _ (hM.fn hk0 h3) hy) (fun o k h => by cases h; exact Nat.le_refl _) fun o2 k2 hk2 e => ?_
    cases e; rw [cut_ok _ hk2]
   ·rw [if_neg h3] at h ⊢; cases h; rw [cut_bad _ hk0]
end
end Go.Proofs.YtdobflpbkfkmgaaGreatDoor
