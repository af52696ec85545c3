import Derived.Test.YtdobflpbkfkmgaaGreatDoorMpb
import Derived.Test.YtdobflpbkfkmgaaGreatDoorMpa
import Derived.Test.YtdobflpbkfkmgaaGreatDoorMju
namespace Go.Proofs.YtdobflpbkfkmgaaGreatDoor
open Go Go.RowKit Go.FR
set_option linter.unusedVariables false
set_option linter.unusedSimpArgs false
set_option linter.unusedSectionVars false
theorem tkA_at {ts:List Tok} {k:Nat} {t:Tok} (h:ts[k]? = some t):tkA ts k = t:=by
 unfold tkA; rw [List.getD_eq_getElem?_getD,h]; rfl
theorem tsok_of_lex {l:List UInt8} {ts:List Tok} {p:Nat} (hl:l.length <= 16384) (h:LexL 0 l ts p 0):TsOk ts (ts.length - 1):=by
 have hp:=lex_places h
 obtain ⟨init,hi,hI⟩:=lex_end h rfl
 have hz:ts.length - 1 = init.length:=by rw [hi]; simp
 rw [hz]
 have hat:∀ k,k < init.length -> ∃ t,ts[k]? = some t /\ t ∈ init:=fun k hk => by
  refine ⟨init[k],?_,List.getElem_mem hk⟩
  rw [hi,List.getElem?_append_left hk,List.getElem?_eq_getElem hk]
 have hlast:ts[init.length]? = some ⟨5,mkS [],0 + l.length⟩:=by rw [hi,List.getElem?_append_right (Nat.le_refl _)]; simp
 have hlen:ts.length = init.length + 1:=by rw [hi]; simp
 refine ⟨⟨hlen,?_,?_⟩,?_,?_⟩
 ·rw [tkA_at hlast]; exact ⟨rfl,bys_mk []⟩
 ·intro k hk
  obtain ⟨t,ht,hm⟩:=hat k hk
  obtain ⟨a,b,c⟩:=hI t hm
  rw [tkA_at ht]
  refine ⟨fun e => ?_,a,b⟩
  have:(bys t.t).length = t.t.size:=rfl
  rw [e] at this; simp at this; omega
 ·have:=hp.1; omega
 ·intro i t ht
  have hm:t ∈ ts:=List.mem_of_getElem? ht
  obtain ⟨a,b,c⟩:=hp.2 t hm
  refine ⟨by omega,by omega,by omega,by omega,fun e => ?_⟩
  rw [hi] at hm
  rcases List.mem_append.1 hm with hm | hm
  ·exact (hI t hm).2.2
  ·rw [List.mem_singleton] at hm; subst hm; cases e
inductive Rd (m:Bool) (ts:List Tok):Gl -> Nat -> Nat -> Ob -> Nat -> Prop
 | binU {i k s o k'}:¬ i < 5 -> Rd m ts .un k s o k' -> Rd m ts (.bin i) k s o k'
 | binR {i k s o k1 o2 k2}:i < 5 -> lvR i = true -> Rd m ts (.bin (i + 1)) k s o k1 -> txt ts k1 = lvS i -> Rd m ts (.bin i) (k1 + 1) (s + 1) o2 k2 -> Rd m ts (.bin i) k s (.fm (Op2 (lvO i) (fmO o) (fmO o2))) k2
 | binN {i k s o k1}:i < 5 -> lvR i = true -> Rd m ts (.bin (i + 1)) k s o k1 -> txt ts k1 ≠ lvS i -> Rd m ts (.bin i) k s (.fm (fmO o)) k1
 | binL {i k s o k1 o2 k2}:i < 5 -> ¬ lvR i = true -> Rd m ts (.bin (i + 1)) k s o k1 -> Rd m ts (.loop i (fmO o)) k1 s o2 k2 -> Rd m ts (.bin i) k s o2 k2
 | loopY {i f k s o k2 o3 k3}:txt ts k = lvS i -> Rd m ts (.bin (i + 1)) (k + 1) s o k2 -> Rd m ts (.loop i (Op2 (lvO i) f (fmO o))) k2 s o3 k3 -> Rd m ts (.loop i f) k s o3 k3
 | loopN {i f k s}:txt ts k ≠ lvS i -> Rd m ts (.loop i f) k s (.fm f) k
 | unB {k s o k'}:s <= 120 -> unO (txt ts k) = none -> Rd m ts .basic k s o k' -> Rd m ts .un k s o k'
 | unQ {k s op o k'}:s <= 120 -> unO (txt ts k) = some op -> op = 8 ∨ op = 9 -> isVar ts (k + 1) = true -> Rd m ts .un (k + 2) (s + 1) o k' -> Rd m ts .un k s (.fm (.mk op (tkA ts (k + 1)).t [] [fmO o])) k'
 | unS {k s op o k'}:s <= 120 -> unO (txt ts k) = some op -> ¬ (op = 8 ∨ op = 9) -> Rd m ts .un (k + 1) (s + 1) o k' -> Rd m ts .un k s (.fm (Op1 op (fmO o))) k'
 | par {k s o k'}:txt ts k = [40] -> Rd m ts (.bin 0) (k + 1) (s + 1) o k' -> txt ts k' = [41] -> Rd m ts .basic k s (.fm (fmO o)) (k' + 1)
 | fls {k s}:txt ts k = [102,97,108,115,101] -> Rd m ts .basic k s (.fm (.mk 2 emp [] [])) (k + 1)
 | mt {k s o k'}:txt ts k ≠ [40] -> txt ts k ≠ [102,97,108,115,101] -> (tkA ts k).k = 2 -> metaP m ts k = .ok o k' -> Rd m ts .basic k s o k'
 | atom {k s o k'}:txt ts k ≠ [40] -> txt ts k ≠ [102,97,108,115,101] -> (tkA ts k).k ≠ 2 -> isPre ts k = true -> Rd m ts .args (k + 1) s o k' -> Rd m ts .basic k s (.fm (.mk 1 (tkA ts k).t (tsO o) [])) k'
 | argY {k s o k'}:txt ts k = [40] -> Rd m ts (.list []) (k + 1) (s + 1) o k' -> txt ts k' = [41] -> Rd m ts .args k s (.ts (tsO o)) (k' + 1)
 | argN {k s}:txt ts k ≠ [40] -> Rd m ts .args k s (.ts []) k
 | lisM {acc k s o k' o2 k2}:Rd m ts .term k s o k' -> txt ts k' = [44] -> Rd m ts (.list (acc ++ [tO o])) (k' + 1) s o2 k2 -> Rd m ts (.list acc) k s o2 k2
 | lisE {acc k s o k'}:Rd m ts .term k s o k' -> txt ts k' ≠ [44] -> Rd m ts (.list acc) k s (.ts (acc ++ [tO o])) k'
 | tmM {k s}:s <= 120 -> (tkA ts k).k = 2 -> isTM m ts k = true -> Rd m ts .term k s (.t (Va (tkA ts k).t)) (k + 1)
 | tmV {k s}:s <= 120 -> (tkA ts k).k ≠ 2 -> isVar ts k = true -> Rd m ts .term k s (.t (Va (tkA ts k).t)) (k + 1)
 | tmF {k s o k'}:s <= 120 -> (tkA ts k).k ≠ 2 -> ¬ isVar ts k = true -> isFun ts k = true -> Rd m ts .args (k + 1) s o k' -> Rd m ts .term k s (.t (.mk false (tkA ts k).t (tsO o))) k'
theorem thenO_ok {r:Option Ot} {f:Ob -> Nat -> Option Ot} {o:Ob} {k:Nat} (h:thenO r f = some (.ok o k)):∃ o1 k1,r = some (.ok o1 k1) /\ f o1 k1 = some (.ok o k):=by
 rcases thenO_some h with h | ⟨k,e,_,h⟩
 ·exact h
 ·cases h
theorem run_rd (m:Bool) (ts:List Tok):∀ (n:Nat) (g:Gl) (k s:Nat) (o:Ob) (k':Nat),run m ts n g k s = some (.ok o k') -> Rd m ts g k s o k'
 | 0,g,k,s,o,k',h => by cases h
 | n + 1,g,k,s,o,k',h => by
  have ih:=run_rd m ts n
  cases g with
  | bin i =>
   unfold run at h
   split at h
   ·rename_i hi
    obtain ⟨o1,k1,h1,h2⟩:=thenO_ok h
    split at h2
    ·rename_i hr
     split at h2
     ·rename_i ht
      obtain ⟨o2,k2,h3,h4⟩:=thenO_ok h2
      cases h4; exact .binR hi hr (ih _ _ _ _ _ h1) ht (ih _ _ _ _ _ h3)
     ·rename_i ht
      cases h2; exact .binN hi hr (ih _ _ _ _ _ h1) ht
    ·rename_i hr
     exact .binL hi hr (ih _ _ _ _ _ h1) (ih _ _ _ _ _ h2)
   ·rename_i hi; exact .binU hi (ih _ _ _ _ _ h)
  | loop i f =>
   unfold run at h
   split at h
   ·rename_i ht
    obtain ⟨o1,k1,h1,h2⟩:=thenO_ok h
    exact .loopY ht (ih _ _ _ _ _ h1) (ih _ _ _ _ _ h2)
   ·rename_i ht; cases h; exact .loopN ht
  | un =>
   unfold run at h
   split at h
   ·cases h
   ·rename_i hs
    split at h
    ·rename_i hu
     exact .unB (by omega) hu (ih _ _ _ _ _ h)
    ·rename_i op hu
     split at h
     ·rename_i ho
      split at h
      ·rename_i hv
       obtain ⟨o1,k1,h1,h2⟩:=thenO_ok h
       cases h2; exact .unQ (by omega) hu ho hv (ih _ _ _ _ _ h1)
      ·cases h
     ·rename_i ho
      obtain ⟨o1,k1,h1,h2⟩:=thenO_ok h
      cases h2; exact .unS (by omega) hu ho (ih _ _ _ _ _ h1)
  | basic =>
   unfold run at h
   split at h
   ·rename_i ht
    obtain ⟨o1,k1,h1,h2⟩:=thenO_ok h
    split at h2
    ·rename_i h3; cases h2; exact .par ht (ih _ _ _ _ _ h1) h3
    ·cases h2
   ·rename_i h1
    split at h
    ·rename_i h2; cases h; exact .fls h2
    ·rename_i h2
     split at h
     ·rename_i h3
      exact .mt h1 h2 h3 (Option.some.inj h)
     ·rename_i h3
      split at h
      ·rename_i h4
       obtain ⟨o1,k1,h5,h6⟩:=thenO_ok h
       cases h6; exact .atom h1 h2 h3 h4 (ih _ _ _ _ _ h5)
      ·cases h
  | args =>
   unfold run at h
   split at h
   ·rename_i ht
    obtain ⟨o1,k1,h1,h2⟩:=thenO_ok h
    split at h2
    ·rename_i h3; cases h2; exact .argY ht (ih _ _ _ _ _ h1) h3
    ·cases h2
   ·rename_i h1; cases h; exact .argN h1
  | list acc =>
   unfold run at h
   obtain ⟨o1,k1,h1,h2⟩:=thenO_ok h
   split at h2
   ·rename_i h3; exact .lisM (ih _ _ _ _ _ h1) h3 (ih _ _ _ _ _ h2)
   ·rename_i h3; cases h2; exact .lisE (ih _ _ _ _ _ h1) h3
  | term =>
   unfold run at h
   split at h
   ·cases h
   ·rename_i hs
    split at h
    ·rename_i hk
     split at h
     ·rename_i h1; cases h; exact .tmM (by omega) hk h1
     ·cases h
    ·rename_i hk
     split at h
     ·rename_i h1; cases h; exact .tmV (by omega) hk h1
     ·rename_i h1
      split at h
      ·rename_i h2
       obtain ⟨o1,k1,h5,h6⟩:=thenO_ok h
       cases h6; exact .tmF (by omega) hk h1 h2 (ih _ _ _ _ _ h5)
      ·cases h
theorem thenO_of {r:Option Ot} {f:Ob -> Nat -> Option Ot} {o:Ob} {k:Nat} (h:r = some (.ok o k)):thenO r f = f o k:=by subst h; rfl
theorem rd_run {m:Bool} {ts:List Tok} {g:Gl} {k s:Nat} {o:Ob} {k':Nat} (h:Rd m ts g k s o k'):∃ n,run m ts n g k s = some (.ok o k'):=by
 induction h with
 | binU hi _ ih => obtain ⟨n,h⟩:=ih; exact ⟨n + 1,by unfold run; rw [if_neg hi]; exact h⟩
 | binR hi hr _ ht _ ih1 ih2 =>
  obtain ⟨n1,h1⟩:=ih1; obtain ⟨n2,h2⟩:=ih2
  refine ⟨max n1 n2 + 1,?_⟩
  unfold run
  rw [if_pos hi,thenO_of (run_le _ _ (Nat.le_max_left _ _) h1),if_pos hr,if_pos ht,thenO_of (run_le _ _ (Nat.le_max_right _ _) h2)]
 | binN hi hr _ ht ih1 =>
  obtain ⟨n1,h1⟩:=ih1
  refine ⟨n1 + 1,?_⟩
  unfold run
  rw [if_pos hi,thenO_of h1,if_pos hr,if_neg ht]
 | binL hi hr _ _ ih1 ih2 =>
  obtain ⟨n1,h1⟩:=ih1; obtain ⟨n2,h2⟩:=ih2
  refine ⟨max n1 n2 + 1,?_⟩
  unfold run
  rw [if_pos hi,thenO_of (run_le _ _ (Nat.le_max_left _ _) h1),if_neg hr,run_le _ _ (Nat.le_max_right _ _) h2]
 | loopY ht _ _ ih1 ih2 =>
  obtain ⟨n1,h1⟩:=ih1; obtain ⟨n2,h2⟩:=ih2
  refine ⟨max n1 n2 + 1,?_⟩
  unfold run
  rw [if_pos ht,thenO_of (run_le _ _ (Nat.le_max_left _ _) h1),run_le _ _ (Nat.le_max_right _ _) h2]
 | loopN ht => exact ⟨1,by unfold run; rw [if_neg ht]⟩
 | unB hs hu _ ih =>
  obtain ⟨n,h⟩:=ih
  refine ⟨n + 1,?_⟩
  unfold run
  rw [if_neg (by omega),hu]; exact h
 | unQ hs hu ho hv _ ih =>
  obtain ⟨n,h⟩:=ih
  refine ⟨n + 1,?_⟩
  unfold run
  rw [if_neg (by omega),hu]
  simp only []
  rw [if_pos ho,if_pos hv,thenO_of h]
 | unS hs hu ho _ ih =>
  obtain ⟨n,h⟩:=ih
  refine ⟨n + 1,?_⟩
  unfold run
  rw [if_neg (by omega),hu]
  simp only []
  rw [if_neg ho,thenO_of h]
 | par ht _ h2 ih =>
  obtain ⟨n,h⟩:=ih
  refine ⟨n + 1,?_⟩
  unfold run
  rw [if_pos ht,thenO_of h,if_pos h2]
 | fls ht => exact ⟨1,by unfold run; rw [if_neg (by rw [ht]; decide),if_pos ht]⟩
 | mt h1 h2 h3 h4 => exact ⟨1,by unfold run; rw [if_neg h1,if_neg h2,if_pos h3,h4]⟩
 | atom h1 h2 h3 h4 _ ih =>
  obtain ⟨n,h⟩:=ih
  refine ⟨n + 1,?_⟩
  unfold run
  rw [if_neg h1,if_neg h2,if_neg h3,if_pos h4,thenO_of h]
 | argY ht _ h2 ih =>
  obtain ⟨n,h⟩:=ih
  refine ⟨n + 1,?_⟩
  unfold run
  rw [if_pos ht,thenO_of h,if_pos h2]
 | argN ht => exact ⟨1,by unfold run; rw [if_neg ht]⟩
 | lisM _ ht _ ih1 ih2 =>
  obtain ⟨n1,h1⟩:=ih1; obtain ⟨n2,h2⟩:=ih2
  refine ⟨max n1 n2 + 1,?_⟩
  unfold run
  rw [thenO_of (run_le _ _ (Nat.le_max_left _ _) h1),if_pos ht,run_le _ _ (Nat.le_max_right _ _) h2]
 | lisE _ ht ih =>
  obtain ⟨n,h⟩:=ih
  refine ⟨n + 1,?_⟩
  unfold run
  rw [thenO_of h,if_neg ht]
 | tmM hs hk h1 => exact ⟨1,by unfold run; rw [if_neg (by omega),if_pos hk,if_pos h1]⟩
 | tmV hs hk h1 => exact ⟨1,by unfold run; rw [if_neg (by omega),if_neg hk,if_pos h1]⟩
 | tmF hs hk h1 h2 _ ih =>
  obtain ⟨n,h⟩:=ih
  refine ⟨n + 1,?_⟩
  unfold run
  rw [if_neg (by omega),if_neg hk,if_neg h1,if_pos h2,thenO_of h]
theorem nodesTs_one (l:List Tm) (t:Tm):nodesTs (l ++ [t]) = nodesTs l + nodesT t:=by rw [nodesTs_append]; simp [nodesTs]
def accN:Gl -> Nat
 | .loop _ f => nodesF f
 | .list acc => nodesTs acc
 | _ => 0
def nodesO:Ob -> Nat
 | .fm f => nodesF f
 | .ts l => nodesTs l
 | .t t => nodesT t
theorem metaP_ok {m:Bool} {ts:List Tok} {k:Nat} {o:Ob} {k':Nat} (h:metaP m ts k = .ok o k'):isFM m ts k = true /\ ((o = .fm (.mk 15 (tkA ts k).t [] []) /\ k' = k + 1 /\ txt ts (k + 1) ≠ [91]) ∨
  (txt ts (k + 1) = [91] /\ isTM m ts (k + 2) = true /\ txt ts (k + 3) = [47] /\ isVar ts (k + 4) = true /\ txt ts (k + 5) = [93] /\ o = .fm (.mk 16 (tkA ts k).t [Va (tkA ts (k + 4)).t,Va (tkA ts (k + 2)).t] []) /\ k' = k + 6)):=by
 unfold metaP at h
 split at h
 ·rename_i h1
  split at h
  ·rename_i h2
   split at h
   ·rename_i h3
    split at h
    ·rename_i h4
     split at h
     ·rename_i h5
      split at h
      ·rename_i h6
       cases h; exact ⟨h1,.inr ⟨h2,h3,h4,h5,h6,rfl,rfl⟩⟩
      ·cases h
     ·cases h
    ·cases h
   ·cases h
  ·rename_i h2
   cases h; exact ⟨h1,.inl ⟨rfl,rfl,h2⟩⟩
 ·cases h
theorem rd_ty {m:Bool} {ts:List Tok} {g:Gl} {k s:Nat} {o:Ob} {k':Nat} (h:Rd m ts g k s o k'):oty o = gty g:=by
 obtain ⟨n,hn⟩:=rd_run h
 exact run_ty m ts n g k s _ hn
theorem nodes_fm {o:Ob} (h:oty o = 0):nodesO o = nodesF (fmO o):=by rw [ty_fm h]; rfl
theorem nodes_ts {o:Ob} (h:oty o = 1):nodesO o = nodesTs (tsO o):=by rw [ty_ts h]; rfl
theorem nodes_t {o:Ob} (h:oty o = 2):nodesO o = nodesT (tO o):=by rw [ty_t h]; rfl
theorem rd_nodes {m:Bool} {ts:List Tok} {g:Gl} {k s:Nat} {o:Ob} {k':Nat} (h:Rd m ts g k s o k'):nodesO o + k <= accN g + k':=by
 induction h with
 | binU hi _ ih => exact ih
 | binR hi hr h1 ht h2 ih1 ih2 =>
  have e1:=nodes_fm (rd_ty h1); have e2:=nodes_fm (rd_ty h2)
  simp only [accN,nodesO,nodes_two] at *
  omega
 | binN hi hr h1 ht ih1 =>
  have e1:=nodes_fm (rd_ty h1)
  simp only [accN,nodesO] at *
  omega
 | binL hi hr h1 _ ih1 ih2 =>
  have e1:=nodes_fm (rd_ty h1)
  simp only [accN,nodesO] at *
  omega
 | loopY ht h1 _ ih1 ih2 =>
  have e1:=nodes_fm (rd_ty h1)
  simp only [accN,nodesO,nodes_two] at *
  omega
 | loopN ht => simp [accN,nodesO]
 | unB hs hu _ ih => exact ih
 | unQ hs hu ho hv h1 ih =>
  have e1:=nodes_fm (rd_ty h1)
  simp only [accN,nodesO,nodesF,nodesL,nodesTs] at *
  omega
 | unS hs hu ho h1 ih =>
  have e1:=nodes_fm (rd_ty h1)
  simp only [accN,nodesO,nodes_one] at *
  omega
 | par ht h1 h2 ih =>
  have e1:=nodes_fm (rd_ty h1)
  simp only [accN,nodesO] at *
  omega
 | fls ht => simp only [accN,nodesO,nodesF,nodesL,nodesTs]; omega
 | mt h1 h2 h3 h4 =>
  rcases (metaP_ok h4).2 with ⟨rfl,rfl,_⟩ | ⟨_,_,_,_,_,rfl,rfl⟩
  ·simp only [accN,nodesO,nodesF,nodesL,nodesTs]; omega
  ·simp only [accN,nodesO,nodesF,nodesL,nodesTs,nodesT,Va]; omega
 | atom h1 h2 h3 h4 h5 ih =>
  have e1:=nodes_ts (rd_ty h5)
  simp only [accN,nodesO,nodesF,nodesL] at *
  omega
 | argY ht h1 h2 ih =>
  have e1:=nodes_ts (rd_ty h1)
  simp only [accN,nodesO,nodesTs] at *
  omega
 | argN ht => simp [accN,nodesO,nodesTs]
 | lisM h1 ht _ ih1 ih2 =>
  have e1:=nodes_t (rd_ty h1)
  simp only [accN,nodesO,nodesTs_one] at *
  omega
 | lisE h1 ht ih =>
  have e1:=nodes_t (rd_ty h1)
  simp only [accN,nodesO,nodesTs_one] at *
  omega
 | tmM hs hk h1 => simp only [accN,nodesO,nodesT,nodesTs,Va]; omega
 | tmV hs hk h1 => simp only [accN,nodesO,nodesT,nodesTs,Va]; omega
 | tmF hs hk h1 h2 h3 ih =>
  have e1:=nodes_ts (rd_ty h3)
  simp only [accN,nodesO,nodesT] at *
  omega
theorem isFM_no {m m':Bool} {ts:List Tok} {k:Nat} (h:(tkA ts k).k ≠ 2):isFM m ts k = isFM m' ts k:=by simp [isFM,h]
theorem isTM_no {m m':Bool} {ts:List Tok} {k:Nat} (h:(tkA ts k).k ≠ 2):isTM m ts k = isTM m' ts k:=by simp [isTM,h]
theorem isFM_false {ts:List Tok} {k:Nat}:isFM false ts k = false:=by simp [isFM]
theorem isTM_false {ts:List Tok} {k:Nat}:isTM false ts k = false:=by simp [isTM]
theorem run_nometa {m m':Bool} {ts:List Tok} (h:∀ k,(tkA ts k).k ≠ 2):∀ n,run m ts n = run m' ts n
 | 0 => rfl
 | n + 1 => by
  have ih:=run_nometa (m:=m) (m':=m') h n
  have hm:∀ k,metaP m ts k = metaP m' ts k:=fun k => by simp only [metaP,isFM_no (m:=m) (m':=m') (h k),isTM_no (m:=m) (m':=m') (h (k + 2))]
  funext g k s
  cases g <;> (unfold run; simp only [ih,hm,isTM_no (m:=m) (m':=m') (h k)])
end Go.Proofs.YtdobflpbkfkmgaaGreatDoor
namespace Go.Proofs.YtdobflpbkfkmgaaGreatDoor
open Go Go.RowKit Go.FR
set_option linter.unusedVariables false
set_option linter.unusedSimpArgs false
set_option linter.unusedSectionVars false
def eqT (t:Tm):Prop:=∀ N d,goodT ⟨N,true⟩ d t = goodT ⟨N,false⟩ d t
def eqTs (l:List Tm):Prop:=∀ N d,goodTs ⟨N,true⟩ d l = goodTs ⟨N,false⟩ d l
def eqF (f:Fm):Prop:=∀ N d,goodF ⟨N,true⟩ d f = goodF ⟨N,false⟩ d f
def eqO:Ob -> Prop
 | .fm f => eqF f
 | .ts l => eqTs l
 | .t t => eqT t
def accE:Gl -> Prop
 | .loop _ f => eqF f
 | .list acc => eqTs acc
 | _ => True
theorem eq_fm {o:Ob} (h:oty o = 0) (h2:eqO o):eqF (fmO o):=by rw [ty_fm h] at h2; exact h2
theorem eq_ts {o:Ob} (h:oty o = 1) (h2:eqO o):eqTs (tsO o):=by rw [ty_ts h] at h2; exact h2
theorem eq_t {o:Ob} (h:oty o = 2) (h2:eqO o):eqT (tO o):=by rw [ty_t h] at h2; exact h2
theorem eqF_mk {op:Nat} {nm:ByteArray} {args:List Tm} {subs:List Fm} (ho:rR op = true) (ha:eqTs args) (hs:∀ f ∈ subs,eqF f):eqF (.mk op nm args subs):=by
 have hs2:∀ N d,goodFs ⟨N,true⟩ d subs = goodFs ⟨N,false⟩ d subs:=by
  intro N d
  induction subs with
  | nil => rfl
  | cons f r ih => simp only [goodFs,hs f (by simp) N d,ih (fun g hg => hs g (by simp [hg]))]
 intro N d
 simp only [goodF,ho,ha N (d + 1),hs2 N (d + 1),Bool.true_or]
theorem eqTs_nil:eqTs []:=fun _ _ => rfl
theorem eqTs_one {l:List Tm} {t:Tm} (h:eqTs l) (ht:eqT t):eqTs (l ++ [t]):=fun N d => by
 rw [goodTs_append,goodTs_append,h N d]; simp only [goodTs,ht N d]
theorem eqT_var {t:ByteArray} (h:checkB varB digitB t = true):eqT (Va t):=fun N d => by simp [Va,goodT,h]
theorem lvO_r (i:Nat):rR (lvO i) = true:=by unfold lvO; split <;> (try split) <;> (try split) <;> (try split) <;> rfl
theorem unO_r {s:List UInt8} {op:Nat} (h:unO s = some op):rR op = true:=by
 unfold unO at h
 split at h
 ·cases h; rfl
 split at h
 ·cases h; rfl
 split at h
 ·cases h; rfl
 split at h
 ·cases h; rfl
 split at h
 ·cases h; rfl
 split at h
 ·cases h; rfl
 split at h
 ·cases h; rfl
 ·cases h
theorem isVar_c {ts:List Tok} {k:Nat} (h:isVar ts k = true):checkB varB digitB (tkA ts k).t = true:=by
 simp only [isVar,Bool.and_eq_true] at h; exact h.2
theorem rd_eq {ts:List Tok} {g:Gl} {k s:Nat} {o:Ob} {k':Nat} (h:Rd false ts g k s o k'):accE g -> eqO o:=by
 induction h with
 | binU hi _ ih => exact fun _ => ih trivial
 | binR hi hr h1 ht h2 ih1 ih2 =>
  intro _
  have e1:=eq_fm (rd_ty h1) (ih1 trivial)
  have e2:=eq_fm (rd_ty h2) (ih2 trivial)
  exact eqF_mk (lvO_r _) eqTs_nil (fun f hf => by simp only [List.mem_cons,List.not_mem_nil,or_false] at hf; rcases hf with rfl | rfl <;> assumption)
 | binN hi hr h1 ht ih1 => exact fun _ => eq_fm (rd_ty h1) (ih1 trivial)
 | binL hi hr h1 _ ih1 ih2 => exact fun _ => ih2 (eq_fm (rd_ty h1) (ih1 trivial))
 | loopY ht h1 _ ih1 ih2 =>
  intro ha
  have e1:=eq_fm (rd_ty h1) (ih1 trivial)
  exact ih2 (eqF_mk (lvO_r _) eqTs_nil (fun f hf => by simp only [List.mem_cons,List.not_mem_nil,or_false] at hf; rcases hf with rfl | rfl <;> first | assumption | exact ha))
 | loopN ht => exact fun ha => ha
 | unB hs hu _ ih => exact fun _ => ih trivial
 | unQ hs hu ho hv h1 ih =>
  intro _
  have e1:=eq_fm (rd_ty h1) (ih trivial)
  exact eqF_mk (unO_r hu) eqTs_nil (fun f hf => by rw [List.mem_singleton] at hf; subst hf; exact e1)
 | unS hs hu ho h1 ih =>
  intro _
  have e1:=eq_fm (rd_ty h1) (ih trivial)
  exact eqF_mk (unO_r hu) eqTs_nil (fun f hf => by rw [List.mem_singleton] at hf; subst hf; exact e1)
 | par ht h1 h2 ih => exact fun _ => eq_fm (rd_ty h1) (ih trivial)
 | fls ht => exact fun _ => eqF_mk rfl eqTs_nil (fun f hf => by cases hf)
 | mt h1 h2 h3 h4 => have:=(metaP_ok h4).1; rw [isFM_false] at this; cases this
 | atom h1 h2 h3 h4 h5 ih => exact fun _ => eqF_mk rfl (eq_ts (rd_ty h5) (ih trivial)) (fun f hf => by cases hf)
 | argY ht h1 h2 ih => exact fun _ => eq_ts (rd_ty h1) (ih eqTs_nil)
 | argN ht => exact fun _ => eqTs_nil
 | lisM h1 ht _ ih1 ih2 => exact fun ha => ih2 (eqTs_one ha (eq_t (rd_ty h1) (ih1 trivial)))
 | lisE h1 ht ih => exact fun ha => eqTs_one ha (eq_t (rd_ty h1) (ih trivial))
 | tmM hs hk h1 => rw [isTM_false] at h1; cases h1
 | tmV hs hk h1 => exact fun _ => eqT_var (isVar_c h1)
 | tmF hs hk h1 h2 h3 ih =>
  intro _ N d
  simp only [goodT,eq_ts (rd_ty h3) (ih trivial) N (d + 1)]
  rfl
theorem right_sch {ts:List Tok} {i k s:Nat} {o:Ob} {k':Nat} (h:Rd false ts (.bin i) k s o k'):schF (fmO o) = rightF (fmO o):=by
 have:=eq_fm (rd_ty h) (rd_eq h trivial)
 simp only [schF,rightF,this 40 1]
end Go.Proofs.YtdobflpbkfkmgaaGreatDoor
