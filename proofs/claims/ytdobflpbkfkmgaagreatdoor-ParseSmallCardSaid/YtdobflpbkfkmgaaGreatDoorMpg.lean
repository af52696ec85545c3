import Derived.Test.YtdobflpbkfkmgaaGreatDoorMpd
namespace Go.Proofs.YtdobflpbkfkmgaaGreatDoor
open Go.RowKit Go.HK Go.FR Lib
set_option linter.unusedVariables false
set_option linter.unusedSimpArgs false
set_option linter.unusedSectionVars false
section
variable {B g c:Nat} {ts:List Tok} {z:Nat} {m:Bool}
def tailT (m:Bool) (ts:List Tok) (n:Nat) (acc:List Tm) (k s:Nat):Option Ot:=if txt ts k = [44] then run m ts n (.list acc) (k + 1) s else some (.ok (.ts acc) k)
set_option maxRecDepth 100000 in
set_option maxHeartbeats 4000000 in
theorem list_of {n:Nat} (hT:TsOk ts z) (IH:Done B g c ts z m n) {k s:Nat} {x:Ot} (hr:run m ts (n + 1) (.list []) k s = some x) (w:World) (h:PSt w B g c ts z m k s):Calls Tryz.prog 90 #[.pointer (some ⟨B,0,none⟩),.func (.func 31) #[.pointer (some ⟨B,0,none⟩)] #[]] w (RetP w B g c ts z m s x):=by
 have HT:=hid hT
 have HP0:=hid h
 have HLT:=hid h.lt
 have hIT:∀ n' y k,n' <= n -> run m ts n' .term k s = some y -> ∀ W,PSt W B g c ts z m k s -> Calls Tryz.prog 31 #[.pointer (some ⟨B,0,none⟩)] W (RetP W B g c ts z m s y):=fun n' y k hn hy W hW => IH _ _ _ _ (run_le m ts hn hy) W hW
 have HIT:=hid hIT
 have HIN:Hid (∀ n' y k,k <= z -> run m ts n' .term k s = some y -> inO z k true y):=hid fun n' y k hk hy => run_iz hT.en n' .term k s y hk hy
 clear hT h hIT IH
 unfold run at hr
 unfold RetP
 rcases thenO_some hr with ⟨o,k2,h1,h2⟩ | ⟨k2,er,h1,rfl⟩
 ·have hty:=run_ty _ _ _ _ _ _ _ h1
  have e:=ty_t hty
  obtain ⟨l,hl⟩:∃ l,l = tO o:=⟨_,rfl⟩
  rw [<- hl] at e h2
  subst e
  have HL:=hid (HIT.out n _ k (Nat.le_refl _) h1)
  unfold RetP at HL
  have HK2:=hid (HIN.out n _ k HP0.out.hk h1)
  have HR:Hid (tailT m ts n [l] k2 s = some x):=hid h2
  clear h1 h2 hty hr hl
  go_enter Tryz.func90,Tryz.ntmps90
  go_upto_region 2 with (first
   | (go_at_call 31; ((with_reducible refine (HL.out _ HP0.out).mono ?_); rintro e w2 ⟨hF2,⟨v2,rfl,hv2⟩,hP2⟩; obtain ⟨⟨ga,gn,gc⟩,hve,hvt,hvz⟩:=hv2; simp only [SL.v] at hve; subst hve; have HI:Hid (LsT w B g c ts z m s [(l,⟨ga,gn,gc⟩)] k2 (.slice (some ⟨w2.heap.size,0,none⟩) 1 1) (w2.alloc (.cells #[.bool l.var,.string l.name,.slice ga gn gc] 36))):=hid (LsT.first (p:=(l,⟨ga,gn,gc⟩)) hF2 hP2 (by have:=HK2.out.2.2 rfl; omega) ⟨hvt,hvz⟩); clear hF2 hP2 hvt hvz)))
  go_wp2_with (fail)
  go_loopw [5] (fun v0 wr => ∃ v n' L k1,v = v0 /\ n' <= n /\ tailT m ts n' (L.map (·.1)) k1 s = some x /\ LsT w B g c ts z m s L k1 v wr) (fun _ wr => z - atOf wr B)
  case atStart => exact ⟨_,n,[(l,⟨ga,gn,gc⟩)],k2,rfl,Nat.le_refl _,HR.out,HI.out⟩
  case round =>
   obtain ⟨v,n',L,k1,rfl,hn,htl,hI⟩:=hrel
   have HI:=hid hI
   have HN:=hid hn
   clear hI hn
   unfold tailT at htl
   by_cases c1:txt ts k1 = [44]
   ·rw [if_pos c1] at htl
    have C1:=hid (show txt ts k1 = bys ⟨#[44]⟩ from c1)
    clear c1
    rcases n' with _ | n'
    ·cases htl
    unfold run at htl
    rcases thenO_some htl with ⟨o,k3,h1,h2⟩ | ⟨k3,er,h1,rfl⟩
    ·have hty:=run_ty _ _ _ _ _ _ _ h1
     have e:=ty_t hty
     obtain ⟨l2,hl⟩:∃ l,l = tO o:=⟨_,rfl⟩
     rw [<- hl] at e h2
     subst e
     have HL:=hid (HIT.out n' _ _ (by have:=HN.out; omega) h1)
     unfold RetP at HL
     have HK3:Hid (k1 + 1 <= z -> k1 + 1 < k3 /\ k3 <= z):=hid fun hh => by have:=HIN.out n' _ _ hh h1; exact ⟨this.2.2 rfl,this.2.1⟩
     have HR:Hid (tailT m ts n' (L.map (·.1) ++ [l2]) k3 s = some x):=hid h2
     have hL6:L.length <= 20000:=by have:=HI.out.le; have:=HI.out.hP.hk; have:=HT.out.le; omega
     obtain ⟨N,hN⟩:∃ N,N = L.length:=⟨_,rfl⟩
     have HNL:=hid hN
     rw [<- hN] at hL6
     clear h1 h2 hty htl hl hN
     go_wp2_with (first
      | (go_at_call 80; ((with_reducible refine (take_yes HT.out HI.out.hP ⟨#[44]⟩ C1.out (by decide)).mono ?_); rintro e w2 ⟨rfl,hF2,hP2⟩; have HF2:=hid hF2; have HP2:=hid hP2; clear hF2 hP2))
      | (go_at_call 31; ((with_reducible refine (HL.out _ HP2.out).mono ?_); rintro e w3 ⟨hF3,⟨v3,rfl,hv3⟩,hP3⟩; obtain ⟨⟨ga,gn,gc⟩,hve,hvt,hvz⟩:=hv3; simp only [SL.v] at hve; subst hve; have HF3:=hid (HF2.out.trans hF3); have HP3:=hid hP3; have HVT:Hid (IsTs (SL' wr.heap.size w3.heap.size) w3 ⟨ga,gn,gc⟩ l2.args /\ l2.name.size <= maxLen):=hid ⟨hvt.turn fun j hj => ⟨⟨Nat.le_trans HF2.out.size hj.1,hj.2⟩,rfl⟩,hvz⟩; have HOW:Hid (w3.ownsRow w.heap.size 36 3 v N (celT L)):=hid (by rw [HNL.out]; exact HF3.out.owns HI.out.own fun gg hgg e => by have:=(HI.out.own.lt gg hgg).1; have:=HLT.out.1; omega); clear hF3 hP3 hvt hvz))
      | (
       at_builtin
       refine wpList_app_any rfl elem22 _ _ rfl v w.heap.size N (celT L) rfl (HOW.out.alloc _) ⟨w3.heap.size,0,none⟩ 1 1 (tmV l2 ⟨ga,gn,gc⟩) rfl rfl (fun j u hj => by rw [addr_add0,HK.blk_cell (HK.blk_new _ _),List.getElem?_toArray]; exact hj) (by intro u hu; simp [tmV,SL.v] at hu; rcases hu with rfl | rfl | rfl <;> rfl) (by simp only [maxLen]; omega) (by omega) (Nat.le_trans (Nat.le_trans HI.out.hF.size HF3.out.size) (by simp)) ?_
       intro v4 w4 hown hgrow hnil hat))
     have HNX:Hid (LsT w B g c ts z m s (L ++ [(l2,⟨ga,gn,gc⟩)]) k3 v4 w4):=hid (HI.out.next HLT.out (p:=(l2,⟨ga,gn,gc⟩)) HF3.out HP3.out (by have:=(HK3.out HP2.out.hk).1; omega) HVT.out (by rw [<- HNL.out]; exact hown) hgrow hat)
     go_roundw
     case rel => exact ⟨_,n',_,k3,rfl,by have:=HN.out; omega,by rw [List.map_append]; exact HR.out,HNX.out⟩
     case measure =>
      rw [HNX.out.hP.at_,HI.out.hP.at_]
      have:=HK3.out HP2.out.hk
      omega
    ·have HL:=hid (HIT.out n' _ _ (by have:=HN.out; omega) h1)
     unfold RetP at HL
     clear h1 htl
     go_wp2_with (first
      | (go_at_call 80; ((with_reducible refine (take_yes HT.out HI.out.hP ⟨#[44]⟩ C1.out (by decide)).mono ?_); rintro e w2 ⟨rfl,hF2,hP2⟩; have HF2:=hid hF2; have HP2:=hid hP2; clear hF2 hP2))
      | (go_at_call 31; ((with_reducible refine (HL.out _ HP2.out).mono ?_); rintro e w3 ⟨hF3,he⟩; unfold failE at he; subst he)))
     exact ⟨rfl,HI.out.hF.trans (HF2.out.trans hF3),by unfold failE; rfl⟩
   ·rw [if_neg c1] at htl
    cases htl
    have C1:=hid (show txt ts k1 ≠ bys ⟨#[44]⟩ from c1)
    clear c1
    go_wp2_with (go_at_call 80; ((with_reducible refine (take_no HT.out HI.out.hP ⟨#[44]⟩ C1.out).mono ?_); rintro e w2 ⟨rfl,hB2⟩))
    go_ret
    obtain ⟨sl,he,hs⟩:=HI.out.value hB2
    exact ⟨HI.out.hF.trans (frm_below hB2),⟨_,rfl,sl,he,hs⟩,HI.out.hP.below hB2⟩
 ·have HL:=hid (HIT.out n _ k (Nat.le_refl _) h1)
  unfold RetP at HL
  clear h1 hr
  go_enter Tryz.func90,Tryz.ntmps90
  go_wp2_with (go_at_call 31; ((with_reducible refine (HL.out _ HP0.out).mono ?_); rintro e w2 ⟨hF2,he⟩; unfold failE at he; subst he))
  exact ⟨rfl,hF2,by unfold failE; rfl⟩
end
end Go.Proofs.YtdobflpbkfkmgaaGreatDoor
namespace Go.Proofs.YtdobflpbkfkmgaaGreatDoor
open Go.RowKit Go.HK Go.FR Lib
set_option linter.unusedVariables false
set_option linter.unusedSimpArgs false
set_option linter.unusedSectionVars false
section
variable {B g c:Nat} {ts:List Tok} {z:Nat} {m:Bool}
set_option maxRecDepth 100000 in
set_option maxHeartbeats 4000000 in
theorem formula_of {n:Nat} (IH:Done B g c ts z m n) {k s:Nat} {x:Ot} (hr:run m ts n (.bin 0) k s = some x) (w:World) (h:PSt w B g c ts z m k s):Calls Tryz.prog 26 #[.pointer (some ⟨B,0,none⟩)] w (RetP w B g c ts z m s x):=by
 have HP0:=hid h
 have HBL:Hid (B < w.heap.size):=hid (HK.blk_lt h.pb)
 have HLT:=hid h.lt
 have HL:Hid (∀ W,PSt W B g c ts z m k s -> Calls Tryz.prog 50 #[.pointer (some ⟨B,0,none⟩),.int .i64 0] W (RetP W B g c ts z m s x)):=hid fun W hW => IH (.bin 0) k s x hr (by omega) W hW
 have hty:=run_ty _ _ _ _ _ _ _ hr
 unfold RetP at HL ⊢
 clear hr h IH
 cases x with
 | ok o k2 =>
  have e:=ty_fm hty
  obtain ⟨f,hf⟩:∃ f,f = fmO o:=⟨_,rfl⟩
  rw [<- hf] at e
  subst e
  clear hf hty
  go_enter Tryz.func26,Tryz.ntmps26
  go_wp2_with (go_at_call 50; ((with_reducible refine (HL.out _ (HP0.out.alloc _)).mono ?_); rintro e w1 ⟨hF1,⟨v1,rfl,hv1⟩,hP1⟩; obtain ⟨⟨ga1,gn1,gc1⟩,⟨gs1,gm1,gd1⟩,hve,hvt,hvs,hvo⟩:=hv1; simp only [SL.v] at hve; subst hve; have HVT1:=hid (And.intro hvt (And.intro hvs hvo)); clear hvt hvs hvo; have HF3:=hid hF1; have HP1:=hid hP1; clear hF1 hP1; have hb0:=HK.Frm.heap HF3.out (HK.blk_new w _) (by have h1:=HBL.out; omega); have r0:=HK.blk_cell hb0 0; have r1:=HK.blk_cell hb0 1; have r2:=HK.blk_cell hb0 2; have r3:=HK.blk_cell hb0 3; have z0:=HK.blk_frozen hb0 0; have z1:=HK.blk_frozen hb0 1; have z2:=HK.blk_frozen hb0 2; have z3:=HK.blk_frozen hb0 3; have HB0:=hid hb0; clear hb0))
  refine bodyPost_ret (results_cell_row (p:=2) (ty:=28) (by kernel_rfl) _ _ w.heap.size 28 _ (0,0) _ rfl (pset4 HB0.out _ _ _ _) Tryz.underlying28 rfl (by kernel_rfl)) rfl ?_
  obtain ⟨q1,q2,q3⟩:=fm_end (t:=f) (lo:=w.heap.size + 1) (((HK.Frm.refl _ w).alloc _).trans HF3.out) HP1.out HLT.out ⟨⟨ga1,gn1,gc1⟩,⟨gs1,gm1,gd1⟩,rfl,by simpa using HVT1.out.1,by simpa using HVT1.out.2.1,HVT1.out.2.2⟩ (by omega) (Value.int .u8 (f.op:Int)) (Value.string f.name) (Value.slice ga1 gn1 gc1) (Value.slice gs1 gm1 gd1)
  exact ⟨q1,⟨_,rfl,q2⟩,q3⟩
 | bad k2 er =>
  go_enter Tryz.func26,Tryz.ntmps26
  go_wp2_with (go_at_call 50; ((with_reducible refine (HL.out _ (HP0.out.alloc _)).mono ?_); rintro e w1 ⟨hF1,he⟩; unfold failE at he; subst he))
  exact ⟨rfl,((HK.Frm.refl _ w).alloc _).trans hF1,by unfold failE; rfl⟩
set_option maxRecDepth 100000 in
set_option maxHeartbeats 8000000 in
theorem basic_of {n:Nat} (hT:TsOk ts z) (IH:Done B g c ts z m n) {k s:Nat} {x:Ot} (hr:run m ts (n + 1) .basic k s = some x) (w:World) (h:PSt w B g c ts z m k s):Calls Tryz.prog 111 #[.pointer (some ⟨B,0,none⟩)] w (RetP w B g c ts z m s x):=by
 have HT:=hid hT
 have HP0:=hid h
 have HBL:Hid (B < w.heap.size):=hid (HK.blk_lt h.pb)
 have HLT:=hid h.lt
 have HHS:=hid h.hs
 have HSZ:Hid ((tkA ts k).t.size <= maxLen):=hid (by have:=(hT.ok k _ (hT.get h.hk)).2.2.1; unfold maxLen; omega)
 have hs6:s <= 20000:=by have:=hT.le; have:=h.hk; have:=h.hs; omega
 obtain ⟨kk,hkk⟩:∃ kk,kk = (tkA ts k).k:=⟨_,rfl⟩
 have HTOK:Hid (∀ W,PSt W B g c ts z m k s -> Calls Tryz.prog 48 #[.pointer (some ⟨B,0,none⟩)] W fun e w' => e = .returned (.agg #[.int .u8 kk,.string (tkA ts k).t,.int .i64 ((tkA ts k).p:Int)]) /\ Below W.heap.size W w'):=hid fun W hW => by rw [hkk]; exact token_any hT hW
 unfold run at hr
 rw [<- hkk] at hr
 clear hT h
 unfold RetP
 by_cases c1:txt ts k = [40]
 ·rw [if_pos c1] at hr
  have C1:=hid (show txt ts k = bys ⟨#[40]⟩ from c1)
  clear c1
  obtain ⟨t,ht⟩:∃ t,t = s + 1:=⟨_,rfl⟩
  have HTT:=hid ht
  have hti:(t:Int) = (s:Int) + 1:=by omega
  have htn:t <= 20001:=by omega
  rw [<- ht] at hr
  clear ht
  rcases thenO_some hr with ⟨o,k2,h1,h2⟩ | ⟨k2,er,h1,rfl⟩
  ·have hty:=run_ty _ _ _ _ _ _ _ h1
   have e:=ty_fm hty
   obtain ⟨f,hf⟩:∃ f,f = fmO o:=⟨_,rfl⟩
   rw [<- hf] at e h2
   subst e
   have HL:=hid (fun W hW => formula_of IH h1 W hW)
   unfold RetP at HL
   clear h1 hty hr hf IH
   by_cases c2:txt ts k2 = [41]
   ·rw [if_pos c2] at h2
    have C2:=hid (show txt ts k2 = bys ⟨#[41]⟩ from c2)
    cases h2
    clear c2
    go_enter Tryz.func111,Tryz.ntmps111
    go_wp2_with (first
     | (go_at_call 48; ((with_reducible refine (HTOK.out _ (HP0.out.alloc _)).mono ?_); rintro e w1 ⟨rfl,hB1⟩; have HP1:=hid ((HP0.out.alloc _).below hB1); have HF1:=hid (frm_below (B:=B) hB1); clear hB1))
     | (go_at_call 80; ((with_reducible refine (take_yes HT.out (HP1.out.alloc _) ⟨#[40]⟩ C1.out (by decide)).mono ?_); rintro e w2 ⟨rfl,hF2,hP2⟩; have p2:=HK.blk_cell hP2.pb 2; have f2:=HK.blk_frozen hP2.pb 2; have HF2:=hid hF2; have HP2:=hid hP2; clear hF2 hP2))
     | (go_at_call 26; ((with_reducible refine (HL.out _ (HP2.out.up HTT.out (by have:=HHS.out; have:=HTT.out; omega))).mono ?_); rintro e w3 ⟨hF3,⟨v1,rfl,hv1⟩,hP3⟩; obtain ⟨⟨ga1,gn1,gc1⟩,⟨gs1,gm1,gd1⟩,hve,hvt,hvs,hvo⟩:=hv1; simp only [SL.v] at hve; subst hve; have HVT1:=hid (And.intro hvt (And.intro hvs hvo)); clear hvt hvs hvo; have hq:=hP3.alloc (Obj.cells #[.int .u8 (f.op:Int),.string f.name,.slice ga1 gn1 gc1,.slice gs1 gm1 gd1] 28); have p2:=HK.blk_cell hq.pb 2; have f2:=HK.blk_frozen hq.pb 2; have HF3a:=hid (FJ.nest (((HF1.out.alloc _).trans ((FJ.nest HF2.out _).trans hF3)).alloc (Obj.cells #[.int .u8 (f.op:Int),.string f.name,.slice ga1 gn1 gc1,.slice gs1 gm1 gd1] 28)) (.int .i64 (s:Int))); have HP3:=hid hP3; have HWL:Hid (w.heap.size < w2.heap.size):=hid (by have h1:=((HF1.out.alloc _).trans HF2.out).size; simp at h1; omega); have HB2:Hid (B < w2.heap.size):=hid (Nat.lt_trans HBL.out HWL.out); have HNE:Hid (w3.heap.size ≠ B):=hid (by have h1:=hF3.size; have h2:=HB2.out; simp at h1; omega); clear hF3 hP3 hq))
     | (go_at_call 91; ((with_reducible refine (need_yes HT.out ((HP3.out.alloc _).dn HTT.out) ⟨#[41]⟩ C2.out (by decide)).mono ?_); rintro e w4 ⟨rfl,hF4,hP4⟩; have hbx:=HK.Frm.heap hF4 (HK.blk_set_other (HK.blk_new w3 _) (p:=⟨B,2,none⟩) HNE.out _) HNE.out; have x0:=HK.blk_cell hbx 0; have x1:=HK.blk_cell hbx 1; have x2:=HK.blk_cell hbx 2; have x3:=HK.blk_cell hbx 3; have HF3:=hid (HF3a.out.trans hF4); have HP4:=hid hP4; have HU:=hid (((Up.of_fj (lo:=w2.heap.size) (lo':=w2.heap.size) (FJ.nest ((HK.Frm.refl (fun j => j = B) w3).alloc _) _) HB2.out (Nat.le_refl _)).tr (Up.of_fj hF4 HB2.out (Nat.le_refl _)))); clear hF4 hP4 hbx; have hb0:=HK.Frm.heap HF3.out (HK.blk_new w _) (by have h1:=HBL.out; omega); have r0:=HK.blk_cell hb0 0; have r1:=HK.blk_cell hb0 1; have r2:=HK.blk_cell hb0 2; have r3:=HK.blk_cell hb0 3; have z0:=HK.blk_frozen hb0 0; have z1:=HK.blk_frozen hb0 1; have z2:=HK.blk_frozen hb0 2; have z3:=HK.blk_frozen hb0 3; have HB0:=hid hb0; clear hb0)))
    refine bodyPost_ret (results_cell_row (p:=2) (ty:=28) (by kernel_rfl) _ _ w.heap.size 28 _ (0,0) _ rfl (pset4 HB0.out _ _ _ _) Tryz.underlying28 rfl (by kernel_rfl)) rfl ?_
    obtain ⟨q1,q2,q3⟩:=fm_end (t:=f) (lo:=w2.heap.size) (((HK.Frm.refl _ w).alloc _).trans HF3.out) HP4.out HLT.out ⟨⟨ga1,gn1,gc1⟩,⟨gs1,gm1,gd1⟩,rfl,(show IsTs (SL' w2.heap.size w3.heap.size) _ _ _ by simpa using HVT1.out.1).turn HU.out.turn,(show IsFs (SL' w2.heap.size w3.heap.size) _ _ _ by simpa using HVT1.out.2.1).turn HU.out.turn,HVT1.out.2.2⟩ (HWL.out) (Value.int .u8 (f.op:Int)) (Value.string f.name) (Value.slice ga1 gn1 gc1) (Value.slice gs1 gm1 gd1)
    exact ⟨q1,⟨_,rfl,q2⟩,q3⟩
   ·rw [if_neg c2] at h2
    have C2:=hid (show txt ts k2 ≠ bys ⟨#[41]⟩ from c2)
    cases h2
    clear c2
    go_enter Tryz.func111,Tryz.ntmps111
    go_wp2_with (first
     | (go_at_call 48; ((with_reducible refine (HTOK.out _ (HP0.out.alloc _)).mono ?_); rintro e w1 ⟨rfl,hB1⟩; have HP1:=hid ((HP0.out.alloc _).below hB1); have HF1:=hid (frm_below (B:=B) hB1); clear hB1))
     | (go_at_call 80; ((with_reducible refine (take_yes HT.out (HP1.out.alloc _) ⟨#[40]⟩ C1.out (by decide)).mono ?_); rintro e w2 ⟨rfl,hF2,hP2⟩; have p2:=HK.blk_cell hP2.pb 2; have f2:=HK.blk_frozen hP2.pb 2; have HF2:=hid hF2; have HP2:=hid hP2; clear hF2 hP2))
     | (go_at_call 26; ((with_reducible refine (HL.out _ (HP2.out.up HTT.out (by have:=HHS.out; have:=HTT.out; omega))).mono ?_); rintro e w3 ⟨hF3,⟨v1,rfl,hv1⟩,hP3⟩; obtain ⟨⟨ga1,gn1,gc1⟩,⟨gs1,gm1,gd1⟩,hve,hvt,hvs,hvo⟩:=hv1; simp only [SL.v] at hve; subst hve; have HVT1:=hid (And.intro hvt (And.intro hvs hvo)); clear hvt hvs hvo; have hq:=hP3.alloc (Obj.cells #[.int .u8 (f.op:Int),.string f.name,.slice ga1 gn1 gc1,.slice gs1 gm1 gd1] 28); have p2:=HK.blk_cell hq.pb 2; have f2:=HK.blk_frozen hq.pb 2; have HF3a:=hid (FJ.nest (((HF1.out.alloc _).trans ((FJ.nest HF2.out _).trans hF3)).alloc (Obj.cells #[.int .u8 (f.op:Int),.string f.name,.slice ga1 gn1 gc1,.slice gs1 gm1 gd1] 28)) (.int .i64 (s:Int))); have HP3:=hid hP3; have HWL:Hid (w.heap.size < w2.heap.size):=hid (by have h1:=((HF1.out.alloc _).trans HF2.out).size; simp at h1; omega); have HB2:Hid (B < w2.heap.size):=hid (Nat.lt_trans HBL.out HWL.out); have HNE:Hid (w3.heap.size ≠ B):=hid (by have h1:=hF3.size; have h2:=HB2.out; simp at h1; omega); clear hF3 hP3 hq))
     | (go_at_call 91; ((with_reducible refine (need_no HT.out ((HP3.out.alloc _).dn HTT.out) ⟨#[41]⟩ C2.out).mono ?_); rintro e w4 ⟨he,hB4⟩; unfold failE at he; subst he)))
    exact ⟨rfl,((HK.Frm.refl _ w).alloc _).trans (HF3a.out.trans (frm_below hB4)),by unfold failE; rfl⟩
  ·have HL:=hid (fun W hW => formula_of IH h1 W hW)
   unfold RetP at HL
   clear h1 hr IH
   go_enter Tryz.func111,Tryz.ntmps111
   go_wp2_with (first
    | (go_at_call 48; ((with_reducible refine (HTOK.out _ (HP0.out.alloc _)).mono ?_); rintro e w1 ⟨rfl,hB1⟩; have HP1:=hid ((HP0.out.alloc _).below hB1); have HF1:=hid (frm_below (B:=B) hB1); clear hB1))
    | (go_at_call 80; ((with_reducible refine (take_yes HT.out (HP1.out.alloc _) ⟨#[40]⟩ C1.out (by decide)).mono ?_); rintro e w2 ⟨rfl,hF2,hP2⟩; have p2:=HK.blk_cell hP2.pb 2; have f2:=HK.blk_frozen hP2.pb 2; have HF2:=hid hF2; have HP2:=hid hP2; clear hF2 hP2))
    | (go_at_call 26; ((with_reducible refine (HL.out _ (HP2.out.up HTT.out (by have:=HHS.out; have:=HTT.out; omega))).mono ?_); rintro e w3 ⟨hF3,he⟩; unfold failE at he; subst he)))
   exact ⟨rfl,((HK.Frm.refl _ w).alloc _).trans ((HF1.out.alloc _).trans ((FJ.nest HF2.out _).trans hF3)),by unfold failE; rfl⟩
 rw [if_neg c1] at hr
 have C1:=hid (show txt ts k ≠ bys ⟨#[40]⟩ from c1)
 clear c1
 by_cases c2:txt ts k = [102,97,108,115,101]
 ·rw [if_pos c2] at hr
  cases hr
  have C2:=hid (show txt ts k = bys ⟨#[102,97,108,115,101]⟩ from c2)
  clear c2 IH
  go_enter Tryz.func111,Tryz.ntmps111
  go_wp2_with (first
   | (go_at_call 48; ((with_reducible refine (HTOK.out _ (HP0.out.alloc _)).mono ?_); rintro e w1 ⟨rfl,hB1⟩; have HP1:=hid ((HP0.out.alloc _).below hB1); have HF1:=hid (frm_below (B:=B) hB1); clear hB1))
   | (go_at_call 80; ((with_reducible refine (take_no HT.out (HP1.out.alloc _) ⟨#[40]⟩ C1.out).mono ?_); rintro e w2 ⟨rfl,hB2⟩; have hx0:=(hB2.block _ (by simp)).trans (HK.blk_new w1 _); have HBX:=hid hx0; have HF2:=hid (frm_below (B:=B) hB2); have HP2:=hid ((HP1.out.alloc _).below hB2); clear hB2 hx0))
   | (go_at_call 80; ((with_reducible refine (take_yes HT.out HP2.out ⟨#[102,97,108,115,101]⟩ C2.out (by decide)).mono ?_); rintro e w3 ⟨rfl,hF3,hP3⟩; have HF3:=hid ((HF1.out.alloc _).trans (HF2.out.trans hF3)); have HP3:=hid hP3; clear hF3 hP3; have hb0:=HK.Frm.heap HF3.out (HK.blk_new w _) (by have h1:=HBL.out; omega); have r0:=HK.blk_cell hb0 0; have r1:=HK.blk_cell hb0 1; have r2:=HK.blk_cell hb0 2; have r3:=HK.blk_cell hb0 3; have z0:=HK.blk_frozen hb0 0; have z1:=HK.blk_frozen hb0 1; have z2:=HK.blk_frozen hb0 2; have z3:=HK.blk_frozen hb0 3; have HB0:=hid hb0; clear hb0)))
  refine bodyPost_ret (results_cell_row (p:=2) (ty:=28) (by kernel_rfl) _ _ w.heap.size 28 _ (0,0) _ rfl (pset4 HB0.out _ _ _ _) Tryz.underlying28 rfl (by kernel_rfl)) rfl ?_
  obtain ⟨q1,q2,q3⟩:=fm_end (t:=.mk 2 emp [] []) (lo:=w.heap.size + 1) (((HK.Frm.refl _ w).alloc _).trans HF3.out) HP3.out HLT.out ⟨⟨none,0,0⟩,⟨none,0,0⟩,rfl,.nil _ _,.nil _ _,by show (2:Nat) < 256; decide,by show (0:Nat) <= maxLen; decide⟩ (by omega) (Value.int .u8 2) (Value.string ⟨#[]⟩) (Value.slice none 0 0) (Value.slice none 0 0)
  exact ⟨q1,⟨_,rfl,q2⟩,q3⟩
 rw [if_neg c2] at hr
 have C2:=hid (show txt ts k ≠ bys ⟨#[102,97,108,115,101]⟩ from c2)
 clear c2
 by_cases c3:kk = 2
 ·rw [if_pos c3] at hr
  subst c3
  have HL:=hid (fun (W:World) (hW:PSt W B g c ts z m k s) => meta_call HT.out hW)
  have hx:metaP m ts k = x:=Option.some.inj hr
  have hty:=metaP_ty m ts k
  rw [hx] at HL hty
  unfold RetP at HL
  clear hx hr IH hkk
  cases x with
  | ok o k2 =>
   have e:=ty_fm hty
   obtain ⟨f,hf⟩:∃ f,f = fmO o:=⟨_,rfl⟩
   rw [<- hf] at e
   subst e
   clear hf hty
   go_enter Tryz.func111,Tryz.ntmps111
   go_wp2_with (first
    | (go_at_call 48; ((with_reducible refine (HTOK.out _ (HP0.out.alloc _)).mono ?_); rintro e w1 ⟨rfl,hB1⟩; have HP1:=hid ((HP0.out.alloc _).below hB1); have HF1:=hid (frm_below (B:=B) hB1); clear hB1))
    | (go_at_call 80; ((with_reducible refine (take_no HT.out (HP1.out.alloc _) ⟨#[40]⟩ C1.out).mono ?_); rintro e w2 ⟨rfl,hB2⟩; have hx0:=(hB2.block _ (by simp)).trans (HK.blk_new w1 _); have HBX:=hid hx0; have HF2:=hid (frm_below (B:=B) hB2); have HP2:=hid ((HP1.out.alloc _).below hB2); clear hB2 hx0))
    | (go_at_call 80; ((with_reducible refine (take_no HT.out HP2.out ⟨#[102,97,108,115,101]⟩ C2.out).mono ?_); rintro e w3 ⟨rfl,hB3⟩; have y0:=HK.blk_cell ((hB3.block _ (HK.blk_lt HBX.out)).trans HBX.out) 0; have HF2b:=hid (frm_below (B:=B) hB3); have HP3:=hid (HP2.out.below hB3); clear hB3))
    | (go_at_call 125; ((with_reducible refine (HL.out _ HP3.out).mono ?_); rintro e w4 ⟨hF4,⟨v1,rfl,hv1⟩,hP4⟩; obtain ⟨⟨ga1,gn1,gc1⟩,⟨gs1,gm1,gd1⟩,hve,hvt,hvs,hvo⟩:=hv1; simp only [SL.v] at hve; subst hve; have HVT1:=hid (And.intro hvt (And.intro hvs hvo)); clear hvt hvs hvo; have HF3:=hid ((HF1.out.alloc _).trans (HF2.out.trans (HF2b.out.trans hF4))); have HP4:=hid hP4; have HWL:Hid (w.heap.size < w3.heap.size):=hid (by have h1:=((HF1.out.alloc _).trans (HF2.out.trans HF2b.out)).size; simp at h1; omega); clear hF4 hP4; have hb0:=HK.Frm.heap HF3.out (HK.blk_new w _) (by have h1:=HBL.out; omega); have r0:=HK.blk_cell hb0 0; have r1:=HK.blk_cell hb0 1; have r2:=HK.blk_cell hb0 2; have r3:=HK.blk_cell hb0 3; have z0:=HK.blk_frozen hb0 0; have z1:=HK.blk_frozen hb0 1; have z2:=HK.blk_frozen hb0 2; have z3:=HK.blk_frozen hb0 3; have HB0:=hid hb0; clear hb0)))
   refine bodyPost_ret (results_cell_row (p:=2) (ty:=28) (by kernel_rfl) _ _ w.heap.size 28 _ (0,0) _ rfl (pset4 HB0.out _ _ _ _) Tryz.underlying28 rfl (by kernel_rfl)) rfl ?_
   obtain ⟨q1,q2,q3⟩:=fm_end (t:=f) (lo:=w3.heap.size) (((HK.Frm.refl _ w).alloc _).trans HF3.out) HP4.out HLT.out ⟨⟨ga1,gn1,gc1⟩,⟨gs1,gm1,gd1⟩,rfl,HVT1.out.1,HVT1.out.2.1,HVT1.out.2.2⟩ (HWL.out) (Value.int .u8 (f.op:Int)) (Value.string f.name) (Value.slice ga1 gn1 gc1) (Value.slice gs1 gm1 gd1)
   exact ⟨q1,⟨_,rfl,q2⟩,q3⟩
  | bad k2 er =>
   go_enter Tryz.func111,Tryz.ntmps111
   go_wp2_with (first
    | (go_at_call 48; ((with_reducible refine (HTOK.out _ (HP0.out.alloc _)).mono ?_); rintro e w1 ⟨rfl,hB1⟩; have HP1:=hid ((HP0.out.alloc _).below hB1); have HF1:=hid (frm_below (B:=B) hB1); clear hB1))
    | (go_at_call 80; ((with_reducible refine (take_no HT.out (HP1.out.alloc _) ⟨#[40]⟩ C1.out).mono ?_); rintro e w2 ⟨rfl,hB2⟩; have hx0:=(hB2.block _ (by simp)).trans (HK.blk_new w1 _); have HBX:=hid hx0; have HF2:=hid (frm_below (B:=B) hB2); have HP2:=hid ((HP1.out.alloc _).below hB2); clear hB2 hx0))
    | (go_at_call 80; ((with_reducible refine (take_no HT.out HP2.out ⟨#[102,97,108,115,101]⟩ C2.out).mono ?_); rintro e w3 ⟨rfl,hB3⟩; have y0:=HK.blk_cell ((hB3.block _ (HK.blk_lt HBX.out)).trans HBX.out) 0; have HF2b:=hid (frm_below (B:=B) hB3); have HP3:=hid (HP2.out.below hB3); clear hB3))
    | (go_at_call 125; ((with_reducible refine (HL.out _ HP3.out).mono ?_); rintro e w4 ⟨hF4,he⟩; unfold failE at he; subst he)))
   exact ⟨rfl,((HK.Frm.refl _ w).alloc _).trans ((HF1.out.alloc _).trans (HF2.out.trans (HF2b.out.trans hF4))),by unfold failE; rfl⟩
 rw [if_neg c3] at hr
 have e3:(kk == 2) = false:=by simp [c3]
 by_cases c4:isPre ts k = true
 ·rw [if_pos c4] at hr
  have C4:=hid c4
  clear c4
  have hHA:∀ y,run m ts n .args (k + 1) s = some y -> ∀ W,PSt W B g c ts z m (k + 1) s -> Calls Tryz.prog 60 #[.pointer (some ⟨B,0,none⟩)] W (RetP W B g c ts z m s y):=fun y hy W hW => IH _ _ _ _ hy W hW
  rcases thenO_some hr with ⟨o,k2,h1,h2⟩ | ⟨k2,er,h1,rfl⟩
  ·have hty:=run_ty _ _ _ _ _ _ _ h1
   have e:=ty_ts hty
   obtain ⟨l,hl⟩:∃ l,l = tsO o:=⟨_,rfl⟩
   rw [<- hl] at e h2
   subst e
   have HL:=hid (hHA _ h1)
   unfold RetP at HL
   cases h2
   clear hHA h1 hty hr hl IH hkk
   go_enter Tryz.func111,Tryz.ntmps111
   go_wp2_with (first
    | (go_at_call 48; ((with_reducible refine (HTOK.out _ (HP0.out.alloc _)).mono ?_); rintro e w1 ⟨rfl,hB1⟩; have HP1:=hid ((HP0.out.alloc _).below hB1); have HF1:=hid (frm_below (B:=B) hB1); clear hB1))
    | (go_at_call 80; ((with_reducible refine (take_no HT.out (HP1.out.alloc _) ⟨#[40]⟩ C1.out).mono ?_); rintro e w2 ⟨rfl,hB2⟩; have hx0:=(hB2.block _ (by simp)).trans (HK.blk_new w1 _); have HBX:=hid hx0; have HF2:=hid (frm_below (B:=B) hB2); have HP2:=hid ((HP1.out.alloc _).below hB2); clear hB2 hx0))
    | (go_at_call 80; ((with_reducible refine (take_no HT.out HP2.out ⟨#[102,97,108,115,101]⟩ C2.out).mono ?_); rintro e w3 ⟨rfl,hB3⟩; have y0:=HK.blk_cell ((hB3.block _ (HK.blk_lt HBX.out)).trans HBX.out) 0; have HF2b:=hid (frm_below (B:=B) hB3); have HP3:=hid (HP2.out.below hB3); clear hB3))
    | (go_at_call 56; ((with_reducible refine (name_pre_yes HT.out HP3.out C4.out).mono ?_); rintro e w4 ⟨rfl,hF4,hP4⟩; have HF2c:=hid hF4; have HP4:=hid hP4; clear hF4 hP4))
    | (go_at_call 60; ((with_reducible refine (HL.out _ HP4.out).mono ?_); rintro e w5 ⟨hF5,⟨v5,rfl,hv5⟩,hP5⟩; obtain ⟨⟨ga,gn,gc⟩,hve,hvt⟩:=hv5; simp only [SL.v] at hve; subst hve; have HVT:=hid hvt; have HP5:=hid hP5; have HF3:=hid ((HF1.out.alloc _).trans (HF2.out.trans (HF2b.out.trans (HF2c.out.trans hF5)))); have HWL:Hid (w.heap.size < w4.heap.size):=hid (by have h1:=((HF1.out.alloc _).trans (HF2.out.trans (HF2b.out.trans HF2c.out))).size; simp at h1; omega); clear hF5 hP5 hvt; have hb0:=HK.Frm.heap HF3.out (HK.blk_new w _) (by have h1:=HBL.out; omega); have r0:=HK.blk_cell hb0 0; have r1:=HK.blk_cell hb0 1; have r2:=HK.blk_cell hb0 2; have r3:=HK.blk_cell hb0 3; have z0:=HK.blk_frozen hb0 0; have z1:=HK.blk_frozen hb0 1; have z2:=HK.blk_frozen hb0 2; have z3:=HK.blk_frozen hb0 3; have HB0:=hid hb0; clear hb0)))
   refine bodyPost_ret (results_cell_row (p:=2) (ty:=28) (by kernel_rfl) _ _ w.heap.size 28 _ (0,0) _ rfl (pset4 HB0.out _ _ _ _) Tryz.underlying28 rfl (by kernel_rfl)) rfl ?_
   obtain ⟨q1,q2,q3⟩:=fm_end (t:=.mk 1 (tkA ts k).t l []) (lo:=w4.heap.size) (((HK.Frm.refl _ w).alloc _).trans HF3.out) HP5.out HLT.out ⟨⟨ga,gn,gc⟩,⟨none,0,0⟩,rfl,HVT.out,.nil _ _,by show (1:Nat) < 256; decide,HSZ.out⟩ (HWL.out) (Value.int .u8 1) (Value.string (tkA ts k).t) (Value.slice ga gn gc) (Value.slice none 0 0)
   exact ⟨q1,⟨_,rfl,q2⟩,q3⟩
  ·have HL:=hid (hHA _ h1)
   unfold RetP at HL
   clear hHA h1 hr IH hkk
   go_enter Tryz.func111,Tryz.ntmps111
   go_wp2_with (first
    | (go_at_call 48; ((with_reducible refine (HTOK.out _ (HP0.out.alloc _)).mono ?_); rintro e w1 ⟨rfl,hB1⟩; have HP1:=hid ((HP0.out.alloc _).below hB1); have HF1:=hid (frm_below (B:=B) hB1); clear hB1))
    | (go_at_call 80; ((with_reducible refine (take_no HT.out (HP1.out.alloc _) ⟨#[40]⟩ C1.out).mono ?_); rintro e w2 ⟨rfl,hB2⟩; have hx0:=(hB2.block _ (by simp)).trans (HK.blk_new w1 _); have HBX:=hid hx0; have HF2:=hid (frm_below (B:=B) hB2); have HP2:=hid ((HP1.out.alloc _).below hB2); clear hB2 hx0))
    | (go_at_call 80; ((with_reducible refine (take_no HT.out HP2.out ⟨#[102,97,108,115,101]⟩ C2.out).mono ?_); rintro e w3 ⟨rfl,hB3⟩; have y0:=HK.blk_cell ((hB3.block _ (HK.blk_lt HBX.out)).trans HBX.out) 0; have HF2b:=hid (frm_below (B:=B) hB3); have HP3:=hid (HP2.out.below hB3); clear hB3))
    | (go_at_call 56; ((with_reducible refine (name_pre_yes HT.out HP3.out C4.out).mono ?_); rintro e w4 ⟨rfl,hF4,hP4⟩; have HF2c:=hid hF4; have HP4:=hid hP4; clear hF4 hP4))
    | (go_at_call 60; ((with_reducible refine (HL.out _ HP4.out).mono ?_); rintro e w5 ⟨hF5,he⟩; unfold failE at he; subst he)))
   exact ⟨rfl,((HK.Frm.refl _ w).alloc _).trans ((HF1.out.alloc _).trans (HF2.out.trans (HF2b.out.trans (HF2c.out.trans hF5)))),by unfold failE; rfl⟩
 ·rw [if_neg c4] at hr
  cases hr
  have C4:=hid c4
  clear c4 IH hkk
  go_enter Tryz.func111,Tryz.ntmps111
  go_wp2_with (first
   | (go_at_call 48; ((with_reducible refine (HTOK.out _ (HP0.out.alloc _)).mono ?_); rintro e w1 ⟨rfl,hB1⟩; have HP1:=hid ((HP0.out.alloc _).below hB1); have HF1:=hid (frm_below (B:=B) hB1); clear hB1))
   | (go_at_call 80; ((with_reducible refine (take_no HT.out (HP1.out.alloc _) ⟨#[40]⟩ C1.out).mono ?_); rintro e w2 ⟨rfl,hB2⟩; have hx0:=(hB2.block _ (by simp)).trans (HK.blk_new w1 _); have HBX:=hid hx0; have HF2:=hid (frm_below (B:=B) hB2); have HP2:=hid ((HP1.out.alloc _).below hB2); clear hB2 hx0))
   | (go_at_call 80; ((with_reducible refine (take_no HT.out HP2.out ⟨#[102,97,108,115,101]⟩ C2.out).mono ?_); rintro e w3 ⟨rfl,hB3⟩; have y0:=HK.blk_cell ((hB3.block _ (HK.blk_lt HBX.out)).trans HBX.out) 0; have HF2b:=hid (frm_below (B:=B) hB3); have HP3:=hid (HP2.out.below hB3); clear hB3))
   | (go_at_call 56; ((with_reducible refine (name_pre_no HT.out HP3.out C4.out).mono ?_); rintro e w4 ⟨he,hF4⟩; unfold failE at he; subst he)))
  exact ⟨rfl,((HK.Frm.refl _ w).alloc _).trans ((HF1.out.alloc _).trans (HF2.out.trans (HF2b.out.trans hF4))),by unfold failE; rfl⟩
end
end Go.Proofs.YtdobflpbkfkmgaaGreatDoor
namespace Go.Proofs.YtdobflpbkfkmgaaGreatDoor
open Go.RowKit Go.HK Go.FR Lib
set_option linter.unusedVariables false
set_option linter.unusedSimpArgs false
set_option linter.unusedSectionVars false
theorem unO_lt {s:List UInt8} {op:Nat} (h:unO s = some op):op < 256:=by
 unfold unO at h
 repeat (first | (cases h; decide) | (cases h; done) | (split at h))
section
variable {B g c:Nat} {ts:List Tok} {z:Nat} {m:Bool}
theorem PSt.step {w:World} {k s:Nat} (h:PSt w B g c ts z m k s) (hk:k < z):PSt (w.setCell ⟨B,1,none⟩ (.int .i64 ((k:Int) + 1))) B g c ts z m (k + 1) s:=h.goto (k':=k + 1) hk (by have:=h.hs; omega)
theorem un_fin {w6:World} {b5:Nat} {a0 a1 a2 a3:Value} (h5:w6.heap[b5]? = some (.cells #[a0,a1,a2,a3] 28 (0,0))) (hne:b5 ≠ B) (hB:B < w6.heap.size) (O:Obj) (v3 u:Value) :
  (((w6.alloc O).setCell ⟨b5,3,none⟩ v3).setCell ⟨B,2,none⟩ u).heap[b5]? = some (.cells #[a0,a1,a2,v3] 28 (0,0)) /\ (((w6.alloc O).setCell ⟨b5,3,none⟩ v3).setCell ⟨B,2,none⟩ u).heap[w6.heap.size]? = some O:=by
 have hl:=HK.blk_lt h5
 refine ⟨HK.blk_set_other (by simpa using HK.blk_set (HK.blk_alloc h5 O) 3 v3) (p:=⟨B,2,none⟩) hne u,HK.blk_set_other (HK.blk_set_other (HK.blk_new w6 O) (p:=⟨b5,3,none⟩) (by simp; omega) v3) (p:=⟨B,2,none⟩) (by simp; omega) u⟩
theorem one_form {S:Nat -> Prop} {W:World} {g:Nat} {f:Fm} {a s:SL} (h:W.heap[g]? = some (.cells #[.int .u8 (f.op:Int),.string f.name,a.v,s.v] 28 (0,0))) (hg:S g) (ht:IsTs S W a f.args) (hs:IsFs S W s f.subs) (ho:f.op < 256 /\ f.name.size <= maxLen):IsFs S W ⟨some ⟨g,0,none⟩,1,1⟩ [f]:=by
 refine fs_row [(f,a,s)] (fun i v hv => ?_) hg ?_ rfl
 ·rw [HK.blk_cell h]
  rcases (by omega:i = 0 ∨ i = 1 ∨ i = 2 ∨ i = 3 ∨ 4 <= i) with rfl | rfl | rfl | rfl | h6
  iterate 4 exact hv
  rw [List.getElem?_eq_none (by simpa [celF,fmV] using h6)] at hv; cases hv
 ·intro p hp
  rw [List.mem_singleton] at hp
  subst hp
  exact ⟨ht,hs,ho⟩
set_option maxRecDepth 100000 in
set_option maxHeartbeats 8000000 in
theorem unary_of {n:Nat} (hT:TsOk ts z) (IH:Done B g c ts z m n) {k s:Nat} {x:Ot} (hr:run m ts (n + 1) .un k s = some x) (w:World) (h:PSt w B g c ts z m k s):Calls Tryz.prog 79 #[.pointer (some ⟨B,0,none⟩)] w (RetP w B g c ts z m s x):=by
 have HT:=hid hT
 have HP0:=hid h
 have HBL:Hid (B < w.heap.size):=hid (HK.blk_lt h.pb)
 have HLT:=hid h.lt
 have HHS:=hid h.hs
 have HSZ:Hid (∀ j,j <= z -> (tkA ts j).t.size <= maxLen):=hid fun j hj => by have:=(hT.ok j _ (hT.get hj)).2.2.1; unfold maxLen; omega
 have hs6:s <= 20000:=by have:=hT.le; have:=h.hk; have:=h.hs; omega
 have hk6:k <= 20000:=by have:=hT.le; have:=h.hk; omega
 have hzv:∀ W,(zeroValue 5).run Tryz.prog W = .ok (.int .u8 0) W:=fun W => rfl
 have HLK:Hid (∀ W es cl,W.heap[w.heap.size + 1]? = some (.map es cl) -> MapIs es.toList unG -> (Instr.lookup 143 (.map (some (w.heap.size + 1))) (.string (tkA ts k).t) true).run Tryz.prog W = .ok (.tuple #[((unO (txt ts k)).map fun op => Value.int .u8 (op:Int)).getD (.int .u8 0),.bool (unO (txt ts k)).isSome]) W):=hid fun W es cl h1 h2 => by
  have:=run_lookup2_str (P:=Tryz.prog) (w:=W) (tkA ts k).t Tryz.underlying143 Tryz.underlying9 (hzv W) h1 h2
  rw [unO_get] at this
  rw [this]
  unfold txt
  cases unO (bys (tkA ts k).t) <;> rfl
 have HTOK:Hid (∀ W,PSt W B g c ts z m k s -> Calls Tryz.prog 48 #[.pointer (some ⟨B,0,none⟩)] W fun e w' => e = .returned (.agg #[.int .u8 (tkA ts k).k,.string (tkA ts k).t,.int .i64 ((tkA ts k).p:Int)]) /\ Below W.heap.size W w'):=hid fun W hW => token_any hT hW
 have HUN:Hid (Calls Tryz.prog 110 #[] (w.alloc (Obj.cells #[.int .u8 0,.string ⟨#[]⟩,.slice none 0 0,.slice none 0 0] 28)) fun e w' => e = .returned (.map (some (w.heap.size + 1))) /\ Below (w.heap.size + 1) (w.alloc (Obj.cells #[.int .u8 0,.string ⟨#[]⟩,.slice none 0 0,.slice none 0 0] 28)) w' /\ ∃ es cl,w'.heap[w.heap.size + 1]? = some (.map es cl) /\ MapIs es.toList unG):=hid (by
  have:=unaries_call (w.alloc (Obj.cells #[.int .u8 0,.string ⟨#[]⟩,.slice none 0 0,.slice none 0 0] 28))
  simpa using this)
 have fl:=fld1
 clear hzv
 unfold run at hr
 unfold RetP
 by_cases c0:120 < s
 ·rw [if_pos c0] at hr
  cases hr
  have C0:=hid c0
  clear c0 hT h
  go_enter Tryz.func79,Tryz.ntmps79
  go_wp2_with (go_at_call 54; ((with_reducible refine (begin_no HT.out (HP0.out.alloc _) C0.out).mono ?_); rintro e w1 ⟨he,hB1⟩; unfold failE at he; subst he))
  exact ⟨rfl,((HK.Frm.refl _ w).alloc _).trans (frm_below hB1),by unfold failE; rfl⟩
 rw [if_neg c0] at hr
 have C0:=hid c0
 clear c0
 cases hop:unO (txt ts k) with
 | none =>
  rw [hop] at hr HLK
  simp only [] at hr
  have HLK0:Hid (∀ W es cl,W.heap[w.heap.size + 1]? = some (.map es cl) -> MapIs es.toList unG -> (Instr.lookup 143 (.map (some (w.heap.size + 1))) (.string (tkA ts k).t) true).run Tryz.prog W = .ok (.tuple #[.int .u8 0,.bool false]) W):=hid fun W es cl a b => HLK.out W es cl a b
  clear HLK
  have HLK:=HLK0
  clear HLK0
  have HL:Hid (∀ W,PSt W B g c ts z m k s -> Calls Tryz.prog 111 #[.pointer (some ⟨B,0,none⟩)] W (RetP W B g c ts z m s x)):=hid fun W hW => IH _ _ _ _ hr W hW
  have hty:=run_ty _ _ _ _ _ _ _ hr
  unfold RetP at HL
  clear hr IH hT h hop
  cases x with
  | ok o k2 =>
   have e:=ty_fm hty
   obtain ⟨f,hf⟩:∃ f,f = fmO o:=⟨_,rfl⟩
   rw [<- hf] at e
   subst e
   clear hf hty
   go_enter Tryz.func79,Tryz.ntmps79
   go_wp2_with (first
    | (go_at_call 54; ((with_reducible refine (begin_yes (HP0.out.alloc _) C0.out).mono ?_); rintro e w0 ⟨rfl,rfl⟩))
    | (go_at_call 110; ((with_reducible refine HUN.out.mono ?_); rintro e w1 ⟨rfl,hB1,es,cl,hm1,hg1⟩; have HB1:Hid (Below (w.alloc (Obj.cells #[.int .u8 0,.string ⟨#[]⟩,.slice none 0 0,.slice none 0 0] 28)).heap.size (w.alloc (Obj.cells #[.int .u8 0,.string ⟨#[]⟩,.slice none 0 0,.slice none 0 0] 28)) w1):=hid (by simpa using hB1); have HM1:=hid hm1; have HG1:=hid hg1; clear hB1 hm1 hg1))
    | (go_at_call 48; ((with_reducible refine (HTOK.out _ ((HP0.out.alloc _).below HB1.out)).mono ?_); rintro e w2 ⟨rfl,hB2⟩; have hlk:=HLK.out w2 es cl ((hB2.block _ (HK.blk_lt HM1.out)).trans HM1.out) HG1.out; have HP2:=hid (((HP0.out.alloc _).below HB1.out).below hB2); have HF2:Hid (FJ B (w.alloc (Obj.cells #[.int .u8 0,.string ⟨#[]⟩,.slice none 0 0,.slice none 0 0] 28)) w2):=hid ((frm_below HB1.out).trans (frm_below hB2)); clear hB2))
    | (go_at_call 111; ((with_reducible refine (HL.out _ HP2.out).mono ?_); rintro e w3 ⟨hF3,⟨v1,rfl,hv1⟩,hP3⟩; obtain ⟨⟨ga1,gn1,gc1⟩,⟨gs1,gm1,gd1⟩,hve,hvt,hvs,hvo⟩:=hv1; simp only [SL.v] at hve; subst hve; have HVT1:=hid (And.intro hvt (And.intro hvs hvo)); clear hvt hvs hvo; have HF3:=hid (HF2.out.trans hF3); have HP3:=hid hP3; have HWL:Hid (w.heap.size < w2.heap.size):=hid (by have h1:=HF2.out.size; simp at h1; omega); clear hF3 hP3; have hb0:=HK.Frm.heap HF3.out (HK.blk_new w _) (by have h1:=HBL.out; omega); have r0:=HK.blk_cell hb0 0; have r1:=HK.blk_cell hb0 1; have r2:=HK.blk_cell hb0 2; have r3:=HK.blk_cell hb0 3; have z0:=HK.blk_frozen hb0 0; have z1:=HK.blk_frozen hb0 1; have z2:=HK.blk_frozen hb0 2; have z3:=HK.blk_frozen hb0 3; have HB0:=hid hb0; clear hb0)))
   refine bodyPost_ret (results_cell_row (p:=2) (ty:=28) (by kernel_rfl) _ _ w.heap.size 28 _ (0,0) _ rfl (pset4 HB0.out _ _ _ _) Tryz.underlying28 rfl (by kernel_rfl)) rfl ?_
   obtain ⟨q1,q2,q3⟩:=fm_end (t:=f) (lo:=w2.heap.size) (((HK.Frm.refl _ w).alloc _).trans HF3.out) HP3.out HLT.out ⟨⟨ga1,gn1,gc1⟩,⟨gs1,gm1,gd1⟩,rfl,HVT1.out.1,HVT1.out.2.1,HVT1.out.2.2⟩ (HWL.out) (Value.int .u8 (f.op:Int)) (Value.string f.name) (Value.slice ga1 gn1 gc1) (Value.slice gs1 gm1 gd1)
   exact ⟨q1,⟨_,rfl,q2⟩,q3⟩
  | bad k2 er =>
   go_enter Tryz.func79,Tryz.ntmps79
   go_wp2_with (first
    | (go_at_call 54; ((with_reducible refine (begin_yes (HP0.out.alloc _) C0.out).mono ?_); rintro e w0 ⟨rfl,rfl⟩))
    | (go_at_call 110; ((with_reducible refine HUN.out.mono ?_); rintro e w1 ⟨rfl,hB1,es,cl,hm1,hg1⟩; have HB1:Hid (Below (w.alloc (Obj.cells #[.int .u8 0,.string ⟨#[]⟩,.slice none 0 0,.slice none 0 0] 28)).heap.size (w.alloc (Obj.cells #[.int .u8 0,.string ⟨#[]⟩,.slice none 0 0,.slice none 0 0] 28)) w1):=hid (by simpa using hB1); have HM1:=hid hm1; have HG1:=hid hg1; clear hB1 hm1 hg1))
    | (go_at_call 48; ((with_reducible refine (HTOK.out _ ((HP0.out.alloc _).below HB1.out)).mono ?_); rintro e w2 ⟨rfl,hB2⟩; have hlk:=HLK.out w2 es cl ((hB2.block _ (HK.blk_lt HM1.out)).trans HM1.out) HG1.out; have HP2:=hid (((HP0.out.alloc _).below HB1.out).below hB2); have HF2:Hid (FJ B (w.alloc (Obj.cells #[.int .u8 0,.string ⟨#[]⟩,.slice none 0 0,.slice none 0 0] 28)) w2):=hid ((frm_below HB1.out).trans (frm_below hB2)); clear hB2))
    | (go_at_call 111; ((with_reducible refine (HL.out _ HP2.out).mono ?_); rintro e w3 ⟨hF3,he⟩; unfold failE at he; subst he)))
   exact ⟨rfl,((HK.Frm.refl _ w).alloc _).trans (HF2.out.trans hF3),by unfold failE; rfl⟩
 | some op =>
  rw [hop] at hr HLK
  simp only [] at hr
  have HLK0:Hid (∀ W es cl,W.heap[w.heap.size + 1]? = some (.map es cl) -> MapIs es.toList unG -> (Instr.lookup 143 (.map (some (w.heap.size + 1))) (.string (tkA ts k).t) true).run Tryz.prog W = .ok (.tuple #[.int .u8 (op:Int),.bool true]) W):=hid fun W es cl a b => HLK.out W es cl a b
  clear HLK
  have HLK:=HLK0
  clear HLK0
  have HKZ:Hid (k < z):=hid (hT.en.lt h.hk (unO_ne hop))
  have hop9:op < 256:=unO_lt hop
  obtain ⟨t,ht⟩:∃ t,t = s + 1:=⟨_,rfl⟩
  have HTT:=hid ht
  have hti:(t:Int) = (s:Int) + 1:=by omega
  have htn:t <= 20001:=by omega
  rw [<- ht] at hr
  clear ht hop hT h
  have hIU:∀ j y,run m ts n .un j t = some y -> ∀ W,PSt W B g c ts z m j t -> Calls Tryz.prog 79 #[.pointer (some ⟨B,0,none⟩)] W (RetP W B g c ts z m t y):=fun j y hy W hW => IH _ _ _ _ hy W hW
  by_cases c8:op = 8 ∨ op = 9
  ·rw [if_pos c8] at hr
   by_cases c1:isVar ts (k + 1) = true
   ·rw [if_pos c1] at hr
    have C1:=hid c1
    clear c1
    rcases thenO_some hr with ⟨o,k2,h1,h2⟩ | ⟨k2,er,h1,rfl⟩
    ·have hty:=run_ty _ _ _ _ _ _ _ h1
     have e:=ty_fm hty
     obtain ⟨f,hf⟩:∃ f,f = fmO o:=⟨_,rfl⟩
     rw [<- hf] at e h2
     subst e
     have HL:=hid (hIU _ _ h1)
     unfold RetP at HL
     cases h2
     clear h1 hty hr hf IH hIU
     rcases c8 with rfl | rfl
     ·have hlk0:=HLK.out
      clear HLK
      simp only [show ((8:Nat):Int) = 8 from rfl,show ((9:Nat):Int) = 9 from rfl] at hlk0
      have HLK:=hid hlk0
      clear hlk0
      go_enter Tryz.func79,Tryz.ntmps79
      go_wp2_with (first
       | (go_at_call 54; ((with_reducible refine (begin_yes (HP0.out.alloc _) C0.out).mono ?_); rintro e w0 ⟨rfl,rfl⟩))
       | (go_at_call 110; ((with_reducible refine HUN.out.mono ?_); rintro e w1 ⟨rfl,hB1,es,cl,hm1,hg1⟩; have HB1:Hid (Below (w.alloc (Obj.cells #[.int .u8 0,.string ⟨#[]⟩,.slice none 0 0,.slice none 0 0] 28)).heap.size (w.alloc (Obj.cells #[.int .u8 0,.string ⟨#[]⟩,.slice none 0 0,.slice none 0 0] 28)) w1):=hid (by simpa using hB1); have HM1:=hid hm1; have HG1:=hid hg1; clear hB1 hm1 hg1))
       | (go_at_call 48; ((with_reducible refine (HTOK.out _ ((HP0.out.alloc _).below HB1.out)).mono ?_); rintro e w2 ⟨rfl,hB2⟩; have hlk:=HLK.out w2 es cl ((hB2.block _ (HK.blk_lt HM1.out)).trans HM1.out) HG1.out; have HP2:=hid (((HP0.out.alloc _).below HB1.out).below hB2); have HF2:Hid (FJ B (w.alloc (Obj.cells #[.int .u8 0,.string ⟨#[]⟩,.slice none 0 0,.slice none 0 0] 28)) w2):=hid ((frm_below HB1.out).trans (frm_below hB2)); clear hB2; have p1:=HK.blk_cell HP2.out.pb 1; have f1:=HK.blk_frozen HP2.out.pb 1; have HW2:Hid (w.heap.size < w2.heap.size /\ B < w2.heap.size):=hid (by have h1:=HF2.out.size; have h2:=HBL.out; simp at h1; omega)))
       | (go_at_call 56; ((with_reducible refine (name_var_yes HT.out ((HP2.out.step HKZ.out).alloc _) C1.out).mono ?_); rintro e w4 ⟨rfl,hF4,hP4⟩; have hb5:=HK.Frm.heap hF4 (HK.blk_new (w2.setCell ⟨B,1,none⟩ (.int .i64 ((k:Int) + 1))) _) (by have h1:=HW2.out.2; simp; omega); simp only [World.size_setCell] at hb5; have y1:=HK.blk_cell hb5 1; have g1:=HK.blk_frozen hb5 1; have hb6:=HK.blk_set hb5 1 (.string (tkA ts (k + 1)).t); simp only [List.setIfInBounds_toArray,List.set_cons_succ,List.set_cons_zero] at hb6; have HB5:=hid hb6; have hP5:=hP4.set HLT.out (a:=⟨w2.heap.size,1,none⟩) (Nat.le_of_lt HW2.out.1) (.string (tkA ts (k + 1)).t); have p2:=HK.blk_cell hP5.pb 2; have f2:=HK.blk_frozen hP5.pb 2; have HP5:=hid (hP5.up HTT.out (by have:=HHS.out; have:=HTT.out; omega)); have HF5:=hid (FJ.nest ((((HF2.out.setCell (p:=⟨B,1,none⟩) (.inl rfl) (.int .i64 ((k:Int) + 1))).alloc _).trans hF4).setCell (p:=⟨w2.heap.size,1,none⟩) (.inr (by have h1:=HW2.out.1; simp; omega)) (.string (tkA ts (k + 1)).t)) (.int .i64 ((s:Int) + 1))); have HW5:Hid (w2.heap.size < w4.heap.size):=hid (HK.blk_lt hb5); clear hF4 hP4 hb5 hb6 hP5))
       | (go_at_call 79; ((with_reducible refine (HL.out _ HP5.out).mono ?_); rintro e w6 ⟨hF6,⟨v1,rfl,hv1⟩,hP6⟩; obtain ⟨⟨ga1,gn1,gc1⟩,⟨gs1,gm1,gd1⟩,hve,hvt,hvs,hvo⟩:=hv1; simp only [SL.v] at hve; subst hve; have HVT1:=hid (And.intro hvt (And.intro hvs hvo)); clear hvt hvs hvo; have hb5:=HK.Frm.heap (FJ.nest (HK.Frm.refl _ _) _ |>.trans hF6) HB5.out (by have h1:=HW2.out.2; omega); have hz5:=HK.blk_alloc hb5 (Obj.cells #[.int .u8 (f.op:Int),.string f.name,.slice ga1 gn1 gc1,.slice gs1 gm1 gd1] 28); have y3:=HK.blk_cell hz5 3; have g3:=HK.blk_frozen hz5 3; have hP7:=(hP6.alloc (Obj.cells #[.int .u8 (f.op:Int),.string f.name,.slice ga1 gn1 gc1,.slice gs1 gm1 gd1] 28)).set HLT.out (a:=⟨w2.heap.size,3,none⟩) (Nat.le_of_lt HW2.out.1) (.slice (some ⟨w6.heap.size,0,none⟩) 1 1); have p2:=HK.blk_cell hP7.pb 2; have f2:=HK.blk_frozen hP7.pb 2; have HP8:=hid (hP7.dn HTT.out); have HSZ6:Hid (w2.heap.size < w6.heap.size /\ B < w6.heap.size):=hid (by have h1:=HK.blk_lt hb5; have h2:=HW2.out.2; omega); have hfin:=un_fin hb5 (B:=B) (by have h1:=HW2.out.2; omega) HSZ6.out.2 (Obj.cells #[.int .u8 (f.op:Int),.string f.name,.slice ga1 gn1 gc1,.slice gs1 gm1 gd1] 28) (.slice (some ⟨w6.heap.size,0,none⟩) 1 1) (.int .i64 (s:Int)); have x0:=HK.blk_cell hfin.1 0; have x1:=HK.blk_cell hfin.1 1; have x2:=HK.blk_cell hfin.1 2; have x3:=HK.blk_cell hfin.1 3; have HFN:=hid hfin.2; have HF3:=hid (FJ.nest (((HF5.out.trans hF6).alloc (Obj.cells #[.int .u8 (f.op:Int),.string f.name,.slice ga1 gn1 gc1,.slice gs1 gm1 gd1] 28)).setCell (p:=⟨w2.heap.size,3,none⟩) (.inr (by have h1:=HW2.out.1; simp; omega)) (.slice (some ⟨w6.heap.size,0,none⟩) 1 1)) (.int .i64 (s:Int))); have HSX:Hid (w4.heap.size <= w6.heap.size):=hid (by have h1:=hF6.size; simpa using h1); clear hF6 hP6 hb5 hz5 hP7 hfin; have hb0:=HK.Frm.heap HF3.out (HK.blk_new w _) (by have h1:=HBL.out; omega); have r0:=HK.blk_cell hb0 0; have r1:=HK.blk_cell hb0 1; have r2:=HK.blk_cell hb0 2; have r3:=HK.blk_cell hb0 3; have z0:=HK.blk_frozen hb0 0; have z1:=HK.blk_frozen hb0 1; have z2:=HK.blk_frozen hb0 2; have z3:=HK.blk_frozen hb0 3; have HB0:=hid hb0; clear hb0))
       )
      have HU:Hid (Up (w4.heap.size) (w2.heap.size) w6 (((w6.alloc (Obj.cells #[.int .u8 (f.op:Int),.string f.name,.slice ga1 gn1 gc1,.slice gs1 gm1 gd1] 28)).setCell ⟨w2.heap.size,3,none⟩ (.slice (some ⟨w6.heap.size,0,none⟩) 1 1)).setCell ⟨B,2,none⟩ (.int .i64 (s:Int)))):=hid (((⟨by exact Nat.le_of_lt HW5.out,Nat.le_refl _,fun _ _ _ => rfl⟩:Up (w4.heap.size) (w2.heap.size) w6 w6).alloc _).set (a:=⟨w2.heap.size,3,none⟩) (by exact HW5.out) _ |>.set (a:=⟨B,2,none⟩) (by have h1:=HW2.out.2; have h2:=HW5.out; show B < w4.heap.size; omega) _)
      refine bodyPost_ret (results_cell_row (p:=2) (ty:=28) (by kernel_rfl) _ _ w.heap.size 28 _ (0,0) _ rfl (pset4 HB0.out _ _ _ _) Tryz.underlying28 rfl (by kernel_rfl)) rfl ?_
      obtain ⟨q1,q2,q3⟩:=fm_end (t:=.mk 8 (tkA ts (k + 1)).t [] [f]) (lo:=w2.heap.size) (((HK.Frm.refl _ w).alloc _).trans HF3.out) HP8.out HLT.out ⟨⟨none,0,0⟩,⟨some ⟨w6.heap.size,0,none⟩,1,1⟩,rfl,.nil _ _,one_form (a:=⟨ga1,gn1,gc1⟩) (s:=⟨gs1,gm1,gd1⟩) HFN.out ⟨Nat.le_of_lt HSZ6.out.1,HK.blk_lt HFN.out⟩ ((show IsTs (SL' (w4.heap.size) w6.heap.size) _ _ _ by simpa using HVT1.out.1).turn HU.out.turn) ((show IsFs (SL' (w4.heap.size) w6.heap.size) _ _ _ by simpa using HVT1.out.2.1).turn HU.out.turn) HVT1.out.2.2,by show (8:Nat) < 256; decide,HSZ.out (k + 1) HKZ.out⟩ (HW2.out.1) (Value.int .u8 8) (Value.string (tkA ts (k + 1)).t) (Value.slice none 0 0) (Value.slice (some ⟨w6.heap.size,0,none⟩) 1 1)
      exact ⟨q1,⟨_,rfl,q2⟩,q3⟩
     ·have hlk0:=HLK.out
      clear HLK
      simp only [show ((8:Nat):Int) = 8 from rfl,show ((9:Nat):Int) = 9 from rfl] at hlk0
      have HLK:=hid hlk0
      clear hlk0
      go_enter Tryz.func79,Tryz.ntmps79
      go_wp2_with (first
       | (go_at_call 54; ((with_reducible refine (begin_yes (HP0.out.alloc _) C0.out).mono ?_); rintro e w0 ⟨rfl,rfl⟩))
       | (go_at_call 110; ((with_reducible refine HUN.out.mono ?_); rintro e w1 ⟨rfl,hB1,es,cl,hm1,hg1⟩; have HB1:Hid (Below (w.alloc (Obj.cells #[.int .u8 0,.string ⟨#[]⟩,.slice none 0 0,.slice none 0 0] 28)).heap.size (w.alloc (Obj.cells #[.int .u8 0,.string ⟨#[]⟩,.slice none 0 0,.slice none 0 0] 28)) w1):=hid (by simpa using hB1); have HM1:=hid hm1; have HG1:=hid hg1; clear hB1 hm1 hg1))
       | (go_at_call 48; ((with_reducible refine (HTOK.out _ ((HP0.out.alloc _).below HB1.out)).mono ?_); rintro e w2 ⟨rfl,hB2⟩; have hlk:=HLK.out w2 es cl ((hB2.block _ (HK.blk_lt HM1.out)).trans HM1.out) HG1.out; have HP2:=hid (((HP0.out.alloc _).below HB1.out).below hB2); have HF2:Hid (FJ B (w.alloc (Obj.cells #[.int .u8 0,.string ⟨#[]⟩,.slice none 0 0,.slice none 0 0] 28)) w2):=hid ((frm_below HB1.out).trans (frm_below hB2)); clear hB2; have p1:=HK.blk_cell HP2.out.pb 1; have f1:=HK.blk_frozen HP2.out.pb 1; have HW2:Hid (w.heap.size < w2.heap.size /\ B < w2.heap.size):=hid (by have h1:=HF2.out.size; have h2:=HBL.out; simp at h1; omega)))
       | (go_at_call 56; ((with_reducible refine (name_var_yes HT.out ((HP2.out.step HKZ.out).alloc _) C1.out).mono ?_); rintro e w4 ⟨rfl,hF4,hP4⟩; have hb5:=HK.Frm.heap hF4 (HK.blk_new (w2.setCell ⟨B,1,none⟩ (.int .i64 ((k:Int) + 1))) _) (by have h1:=HW2.out.2; simp; omega); simp only [World.size_setCell] at hb5; have y1:=HK.blk_cell hb5 1; have g1:=HK.blk_frozen hb5 1; have hb6:=HK.blk_set hb5 1 (.string (tkA ts (k + 1)).t); simp only [List.setIfInBounds_toArray,List.set_cons_succ,List.set_cons_zero] at hb6; have HB5:=hid hb6; have hP5:=hP4.set HLT.out (a:=⟨w2.heap.size,1,none⟩) (Nat.le_of_lt HW2.out.1) (.string (tkA ts (k + 1)).t); have p2:=HK.blk_cell hP5.pb 2; have f2:=HK.blk_frozen hP5.pb 2; have HP5:=hid (hP5.up HTT.out (by have:=HHS.out; have:=HTT.out; omega)); have HF5:=hid (FJ.nest ((((HF2.out.setCell (p:=⟨B,1,none⟩) (.inl rfl) (.int .i64 ((k:Int) + 1))).alloc _).trans hF4).setCell (p:=⟨w2.heap.size,1,none⟩) (.inr (by have h1:=HW2.out.1; simp; omega)) (.string (tkA ts (k + 1)).t)) (.int .i64 ((s:Int) + 1))); have HW5:Hid (w2.heap.size < w4.heap.size):=hid (HK.blk_lt hb5); clear hF4 hP4 hb5 hb6 hP5))
       | (go_at_call 79; ((with_reducible refine (HL.out _ HP5.out).mono ?_); rintro e w6 ⟨hF6,⟨v1,rfl,hv1⟩,hP6⟩; obtain ⟨⟨ga1,gn1,gc1⟩,⟨gs1,gm1,gd1⟩,hve,hvt,hvs,hvo⟩:=hv1; simp only [SL.v] at hve; subst hve; have HVT1:=hid (And.intro hvt (And.intro hvs hvo)); clear hvt hvs hvo; have hb5:=HK.Frm.heap (FJ.nest (HK.Frm.refl _ _) _ |>.trans hF6) HB5.out (by have h1:=HW2.out.2; omega); have hz5:=HK.blk_alloc hb5 (Obj.cells #[.int .u8 (f.op:Int),.string f.name,.slice ga1 gn1 gc1,.slice gs1 gm1 gd1] 28); have y3:=HK.blk_cell hz5 3; have g3:=HK.blk_frozen hz5 3; have hP7:=(hP6.alloc (Obj.cells #[.int .u8 (f.op:Int),.string f.name,.slice ga1 gn1 gc1,.slice gs1 gm1 gd1] 28)).set HLT.out (a:=⟨w2.heap.size,3,none⟩) (Nat.le_of_lt HW2.out.1) (.slice (some ⟨w6.heap.size,0,none⟩) 1 1); have p2:=HK.blk_cell hP7.pb 2; have f2:=HK.blk_frozen hP7.pb 2; have HP8:=hid (hP7.dn HTT.out); have HSZ6:Hid (w2.heap.size < w6.heap.size /\ B < w6.heap.size):=hid (by have h1:=HK.blk_lt hb5; have h2:=HW2.out.2; omega); have hfin:=un_fin hb5 (B:=B) (by have h1:=HW2.out.2; omega) HSZ6.out.2 (Obj.cells #[.int .u8 (f.op:Int),.string f.name,.slice ga1 gn1 gc1,.slice gs1 gm1 gd1] 28) (.slice (some ⟨w6.heap.size,0,none⟩) 1 1) (.int .i64 (s:Int)); have x0:=HK.blk_cell hfin.1 0; have x1:=HK.blk_cell hfin.1 1; have x2:=HK.blk_cell hfin.1 2; have x3:=HK.blk_cell hfin.1 3; have HFN:=hid hfin.2; have HF3:=hid (FJ.nest (((HF5.out.trans hF6).alloc (Obj.cells #[.int .u8 (f.op:Int),.string f.name,.slice ga1 gn1 gc1,.slice gs1 gm1 gd1] 28)).setCell (p:=⟨w2.heap.size,3,none⟩) (.inr (by have h1:=HW2.out.1; simp; omega)) (.slice (some ⟨w6.heap.size,0,none⟩) 1 1)) (.int .i64 (s:Int))); have HSX:Hid (w4.heap.size <= w6.heap.size):=hid (by have h1:=hF6.size; simpa using h1); clear hF6 hP6 hb5 hz5 hP7 hfin; have hb0:=HK.Frm.heap HF3.out (HK.blk_new w _) (by have h1:=HBL.out; omega); have r0:=HK.blk_cell hb0 0; have r1:=HK.blk_cell hb0 1; have r2:=HK.blk_cell hb0 2; have r3:=HK.blk_cell hb0 3; have z0:=HK.blk_frozen hb0 0; have z1:=HK.blk_frozen hb0 1; have z2:=HK.blk_frozen hb0 2; have z3:=HK.blk_frozen hb0 3; have HB0:=hid hb0; clear hb0))
       )
      have HU:Hid (Up (w4.heap.size) (w2.heap.size) w6 (((w6.alloc (Obj.cells #[.int .u8 (f.op:Int),.string f.name,.slice ga1 gn1 gc1,.slice gs1 gm1 gd1] 28)).setCell ⟨w2.heap.size,3,none⟩ (.slice (some ⟨w6.heap.size,0,none⟩) 1 1)).setCell ⟨B,2,none⟩ (.int .i64 (s:Int)))):=hid (((⟨by exact Nat.le_of_lt HW5.out,Nat.le_refl _,fun _ _ _ => rfl⟩:Up (w4.heap.size) (w2.heap.size) w6 w6).alloc _).set (a:=⟨w2.heap.size,3,none⟩) (by exact HW5.out) _ |>.set (a:=⟨B,2,none⟩) (by have h1:=HW2.out.2; have h2:=HW5.out; show B < w4.heap.size; omega) _)
      refine bodyPost_ret (results_cell_row (p:=2) (ty:=28) (by kernel_rfl) _ _ w.heap.size 28 _ (0,0) _ rfl (pset4 HB0.out _ _ _ _) Tryz.underlying28 rfl (by kernel_rfl)) rfl ?_
      obtain ⟨q1,q2,q3⟩:=fm_end (t:=.mk 9 (tkA ts (k + 1)).t [] [f]) (lo:=w2.heap.size) (((HK.Frm.refl _ w).alloc _).trans HF3.out) HP8.out HLT.out ⟨⟨none,0,0⟩,⟨some ⟨w6.heap.size,0,none⟩,1,1⟩,rfl,.nil _ _,one_form (a:=⟨ga1,gn1,gc1⟩) (s:=⟨gs1,gm1,gd1⟩) HFN.out ⟨Nat.le_of_lt HSZ6.out.1,HK.blk_lt HFN.out⟩ ((show IsTs (SL' (w4.heap.size) w6.heap.size) _ _ _ by simpa using HVT1.out.1).turn HU.out.turn) ((show IsFs (SL' (w4.heap.size) w6.heap.size) _ _ _ by simpa using HVT1.out.2.1).turn HU.out.turn) HVT1.out.2.2,by show (9:Nat) < 256; decide,HSZ.out (k + 1) HKZ.out⟩ (HW2.out.1) (Value.int .u8 9) (Value.string (tkA ts (k + 1)).t) (Value.slice none 0 0) (Value.slice (some ⟨w6.heap.size,0,none⟩) 1 1)
      exact ⟨q1,⟨_,rfl,q2⟩,q3⟩
    ·have HL:=hid (hIU _ _ h1)
     unfold RetP at HL
     clear h1 hr IH hIU
     rcases c8 with rfl | rfl
     all_goals (
      have hlk0:=HLK.out
      clear HLK
      simp only [show ((8:Nat):Int) = 8 from rfl,show ((9:Nat):Int) = 9 from rfl] at hlk0
      have HLK:=hid hlk0
      clear hlk0
      go_enter Tryz.func79,Tryz.ntmps79
      go_wp2_with (first
       | (go_at_call 54; ((with_reducible refine (begin_yes (HP0.out.alloc _) C0.out).mono ?_); rintro e w0 ⟨rfl,rfl⟩))
       | (go_at_call 110; ((with_reducible refine HUN.out.mono ?_); rintro e w1 ⟨rfl,hB1,es,cl,hm1,hg1⟩; have HB1:Hid (Below (w.alloc (Obj.cells #[.int .u8 0,.string ⟨#[]⟩,.slice none 0 0,.slice none 0 0] 28)).heap.size (w.alloc (Obj.cells #[.int .u8 0,.string ⟨#[]⟩,.slice none 0 0,.slice none 0 0] 28)) w1):=hid (by simpa using hB1); have HM1:=hid hm1; have HG1:=hid hg1; clear hB1 hm1 hg1))
       | (go_at_call 48; ((with_reducible refine (HTOK.out _ ((HP0.out.alloc _).below HB1.out)).mono ?_); rintro e w2 ⟨rfl,hB2⟩; have hlk:=HLK.out w2 es cl ((hB2.block _ (HK.blk_lt HM1.out)).trans HM1.out) HG1.out; have HP2:=hid (((HP0.out.alloc _).below HB1.out).below hB2); have HF2:Hid (FJ B (w.alloc (Obj.cells #[.int .u8 0,.string ⟨#[]⟩,.slice none 0 0,.slice none 0 0] 28)) w2):=hid ((frm_below HB1.out).trans (frm_below hB2)); clear hB2; have p1:=HK.blk_cell HP2.out.pb 1; have f1:=HK.blk_frozen HP2.out.pb 1; have HW2:Hid (w.heap.size < w2.heap.size /\ B < w2.heap.size):=hid (by have h1:=HF2.out.size; have h2:=HBL.out; simp at h1; omega)))
       | (go_at_call 56; ((with_reducible refine (name_var_yes HT.out ((HP2.out.step HKZ.out).alloc _) C1.out).mono ?_); rintro e w4 ⟨rfl,hF4,hP4⟩; have hb5:=HK.Frm.heap hF4 (HK.blk_new (w2.setCell ⟨B,1,none⟩ (.int .i64 ((k:Int) + 1))) _) (by have h1:=HW2.out.2; simp; omega); simp only [World.size_setCell] at hb5; have y1:=HK.blk_cell hb5 1; have g1:=HK.blk_frozen hb5 1; have hb6:=HK.blk_set hb5 1 (.string (tkA ts (k + 1)).t); simp only [List.setIfInBounds_toArray,List.set_cons_succ,List.set_cons_zero] at hb6; have HB5:=hid hb6; have hP5:=hP4.set HLT.out (a:=⟨w2.heap.size,1,none⟩) (Nat.le_of_lt HW2.out.1) (.string (tkA ts (k + 1)).t); have p2:=HK.blk_cell hP5.pb 2; have f2:=HK.blk_frozen hP5.pb 2; have HP5:=hid (hP5.up HTT.out (by have:=HHS.out; have:=HTT.out; omega)); have HF5:=hid (FJ.nest ((((HF2.out.setCell (p:=⟨B,1,none⟩) (.inl rfl) (.int .i64 ((k:Int) + 1))).alloc _).trans hF4).setCell (p:=⟨w2.heap.size,1,none⟩) (.inr (by have h1:=HW2.out.1; simp; omega)) (.string (tkA ts (k + 1)).t)) (.int .i64 ((s:Int) + 1))); have HW5:Hid (w2.heap.size < w4.heap.size):=hid (HK.blk_lt hb5); clear hF4 hP4 hb5 hb6 hP5))
       | (go_at_call 79; ((with_reducible refine (HL.out _ HP5.out).mono ?_); rintro e w6 ⟨hF6,he⟩; unfold failE at he; subst he)))
      exact ⟨rfl,((HK.Frm.refl _ w).alloc _).trans (HF5.out.trans hF6),by unfold failE; rfl⟩)
   ·rw [if_neg c1] at hr
    cases hr
    have C1:=hid c1
    clear c1 IH hIU
    rcases c8 with rfl | rfl
    all_goals (
     have hlk0:=HLK.out
     clear HLK
     simp only [show ((8:Nat):Int) = 8 from rfl,show ((9:Nat):Int) = 9 from rfl] at hlk0
     have HLK:=hid hlk0
     clear hlk0
     go_enter Tryz.func79,Tryz.ntmps79
     go_wp2_with (first
      | (go_at_call 54; ((with_reducible refine (begin_yes (HP0.out.alloc _) C0.out).mono ?_); rintro e w0 ⟨rfl,rfl⟩))
      | (go_at_call 110; ((with_reducible refine HUN.out.mono ?_); rintro e w1 ⟨rfl,hB1,es,cl,hm1,hg1⟩; have HB1:Hid (Below (w.alloc (Obj.cells #[.int .u8 0,.string ⟨#[]⟩,.slice none 0 0,.slice none 0 0] 28)).heap.size (w.alloc (Obj.cells #[.int .u8 0,.string ⟨#[]⟩,.slice none 0 0,.slice none 0 0] 28)) w1):=hid (by simpa using hB1); have HM1:=hid hm1; have HG1:=hid hg1; clear hB1 hm1 hg1))
      | (go_at_call 48; ((with_reducible refine (HTOK.out _ ((HP0.out.alloc _).below HB1.out)).mono ?_); rintro e w2 ⟨rfl,hB2⟩; have hlk:=HLK.out w2 es cl ((hB2.block _ (HK.blk_lt HM1.out)).trans HM1.out) HG1.out; have HP2:=hid (((HP0.out.alloc _).below HB1.out).below hB2); have HF2:Hid (FJ B (w.alloc (Obj.cells #[.int .u8 0,.string ⟨#[]⟩,.slice none 0 0,.slice none 0 0] 28)) w2):=hid ((frm_below HB1.out).trans (frm_below hB2)); clear hB2; have p1:=HK.blk_cell HP2.out.pb 1; have f1:=HK.blk_frozen HP2.out.pb 1; have HW2:Hid (w.heap.size < w2.heap.size /\ B < w2.heap.size):=hid (by have h1:=HF2.out.size; have h2:=HBL.out; simp at h1; omega)))
      | (go_at_call 56; ((with_reducible refine (name_var_no HT.out ((HP2.out.step HKZ.out).alloc _) C1.out).mono ?_); rintro e w4 ⟨he,hF4⟩; unfold failE at he; subst he)))
     exact ⟨rfl,((HK.Frm.refl _ w).alloc _).trans (((HF2.out.setCell (p:=⟨B,1,none⟩) (.inl rfl) _).alloc _).trans hF4),by unfold failE; rfl⟩)
  ·rw [if_neg c8] at hr
   have e8:((op:Int) == 8) = false:=by simp; omega
   have e9:((op:Int) == 9) = false:=by simp; omega
   have e8':¬ (op:Int) = 8:=by omega
   have e9':¬ (op:Int) = 9:=by omega
   rcases thenO_some hr with ⟨o,k2,h1,h2⟩ | ⟨k2,er,h1,rfl⟩
   ·have hty:=run_ty _ _ _ _ _ _ _ h1
    have e:=ty_fm hty
    obtain ⟨f,hf⟩:∃ f,f = fmO o:=⟨_,rfl⟩
    rw [<- hf] at e h2
    subst e
    have HL:=hid (hIU _ _ h1)
    unfold RetP at HL
    cases h2
    clear h1 hty hr hf IH hIU c8
    go_enter Tryz.func79,Tryz.ntmps79
    go_wp2_with (first
     | (go_at_call 54; ((with_reducible refine (begin_yes (HP0.out.alloc _) C0.out).mono ?_); rintro e w0 ⟨rfl,rfl⟩))
     | (go_at_call 110; ((with_reducible refine HUN.out.mono ?_); rintro e w1 ⟨rfl,hB1,es,cl,hm1,hg1⟩; have HB1:Hid (Below (w.alloc (Obj.cells #[.int .u8 0,.string ⟨#[]⟩,.slice none 0 0,.slice none 0 0] 28)).heap.size (w.alloc (Obj.cells #[.int .u8 0,.string ⟨#[]⟩,.slice none 0 0,.slice none 0 0] 28)) w1):=hid (by simpa using hB1); have HM1:=hid hm1; have HG1:=hid hg1; clear hB1 hm1 hg1))
     | (go_at_call 48; ((with_reducible refine (HTOK.out _ ((HP0.out.alloc _).below HB1.out)).mono ?_); rintro e w2 ⟨rfl,hB2⟩; have hlk:=HLK.out w2 es cl ((hB2.block _ (HK.blk_lt HM1.out)).trans HM1.out) HG1.out; have HP2:=hid (((HP0.out.alloc _).below HB1.out).below hB2); have HF2:Hid (FJ B (w.alloc (Obj.cells #[.int .u8 0,.string ⟨#[]⟩,.slice none 0 0,.slice none 0 0] 28)) w2):=hid ((frm_below HB1.out).trans (frm_below hB2)); clear hB2; have p1:=HK.blk_cell HP2.out.pb 1; have f1:=HK.blk_frozen HP2.out.pb 1; have HW2:Hid (w.heap.size < w2.heap.size /\ B < w2.heap.size):=hid (by have h1:=HF2.out.size; have h2:=HBL.out; simp at h1; omega); have hP4:=(HP2.out.step HKZ.out).alloc (Obj.cells #[.int .u8 (op:Int),.string ⟨#[]⟩,.slice none 0 0,.slice none 0 0] 28); have p2:=HK.blk_cell hP4.pb 2; have f2:=HK.blk_frozen hP4.pb 2; have hb5:=HK.blk_new (w2.setCell ⟨B,1,none⟩ (.int .i64 ((k:Int) + 1))) (Obj.cells #[.int .u8 (op:Int),.string ⟨#[]⟩,.slice none 0 0,.slice none 0 0] 28); simp only [World.size_setCell] at hb5; have HB5:=hid hb5; have HP5:=hid (hP4.up HTT.out (by have:=HHS.out; have:=HTT.out; omega)); have HF5:=hid (FJ.nest ((HF2.out.setCell (p:=⟨B,1,none⟩) (.inl rfl) (.int .i64 ((k:Int) + 1))).alloc (Obj.cells #[.int .u8 (op:Int),.string ⟨#[]⟩,.slice none 0 0,.slice none 0 0] 28)) (.int .i64 ((s:Int) + 1))); clear hP4 hb5))
     | (go_at_call 79; ((with_reducible refine (HL.out _ HP5.out).mono ?_); rintro e w6 ⟨hF6,⟨v1,rfl,hv1⟩,hP6⟩; obtain ⟨⟨ga1,gn1,gc1⟩,⟨gs1,gm1,gd1⟩,hve,hvt,hvs,hvo⟩:=hv1; simp only [SL.v] at hve; subst hve; have HVT1:=hid (And.intro hvt (And.intro hvs hvo)); clear hvt hvs hvo; have hb5:=HK.Frm.heap (FJ.nest (HK.Frm.refl _ _) _ |>.trans hF6) HB5.out (by have h1:=HW2.out.2; omega); have hz5:=HK.blk_alloc hb5 (Obj.cells #[.int .u8 (f.op:Int),.string f.name,.slice ga1 gn1 gc1,.slice gs1 gm1 gd1] 28); have y3:=HK.blk_cell hz5 3; have g3:=HK.blk_frozen hz5 3; have hP7:=(hP6.alloc (Obj.cells #[.int .u8 (f.op:Int),.string f.name,.slice ga1 gn1 gc1,.slice gs1 gm1 gd1] 28)).set HLT.out (a:=⟨w2.heap.size,3,none⟩) (Nat.le_of_lt HW2.out.1) (.slice (some ⟨w6.heap.size,0,none⟩) 1 1); have p2:=HK.blk_cell hP7.pb 2; have f2:=HK.blk_frozen hP7.pb 2; have HP8:=hid (hP7.dn HTT.out); have HSZ6:Hid (w2.heap.size < w6.heap.size /\ B < w6.heap.size):=hid (by have h1:=HK.blk_lt hb5; have h2:=HW2.out.2; omega); have hfin:=un_fin hb5 (B:=B) (by have h1:=HW2.out.2; omega) HSZ6.out.2 (Obj.cells #[.int .u8 (f.op:Int),.string f.name,.slice ga1 gn1 gc1,.slice gs1 gm1 gd1] 28) (.slice (some ⟨w6.heap.size,0,none⟩) 1 1) (.int .i64 (s:Int)); have x0:=HK.blk_cell hfin.1 0; have x1:=HK.blk_cell hfin.1 1; have x2:=HK.blk_cell hfin.1 2; have x3:=HK.blk_cell hfin.1 3; have HFN:=hid hfin.2; have HF3:=hid (FJ.nest (((HF5.out.trans hF6).alloc (Obj.cells #[.int .u8 (f.op:Int),.string f.name,.slice ga1 gn1 gc1,.slice gs1 gm1 gd1] 28)).setCell (p:=⟨w2.heap.size,3,none⟩) (.inr (by have h1:=HW2.out.1; simp; omega)) (.slice (some ⟨w6.heap.size,0,none⟩) 1 1)) (.int .i64 (s:Int))); have HSX:Hid (w2.heap.size + 1 <= w6.heap.size):=hid (by have h1:=hF6.size; simpa using h1); clear hF6 hP6 hb5 hz5 hP7 hfin; have hb0:=HK.Frm.heap HF3.out (HK.blk_new w _) (by have h1:=HBL.out; omega); have r0:=HK.blk_cell hb0 0; have r1:=HK.blk_cell hb0 1; have r2:=HK.blk_cell hb0 2; have r3:=HK.blk_cell hb0 3; have z0:=HK.blk_frozen hb0 0; have z1:=HK.blk_frozen hb0 1; have z2:=HK.blk_frozen hb0 2; have z3:=HK.blk_frozen hb0 3; have HB0:=hid hb0; clear hb0))
     )
    have HU:Hid (Up (w2.heap.size + 1) (w2.heap.size) w6 (((w6.alloc (Obj.cells #[.int .u8 (f.op:Int),.string f.name,.slice ga1 gn1 gc1,.slice gs1 gm1 gd1] 28)).setCell ⟨w2.heap.size,3,none⟩ (.slice (some ⟨w6.heap.size,0,none⟩) 1 1)).setCell ⟨B,2,none⟩ (.int .i64 (s:Int)))):=hid (((⟨by omega,Nat.le_refl _,fun _ _ _ => rfl⟩:Up (w2.heap.size + 1) (w2.heap.size) w6 w6).alloc _).set (a:=⟨w2.heap.size,3,none⟩) (by show w2.heap.size < w2.heap.size + 1; omega) _ |>.set (a:=⟨B,2,none⟩) (by have h1:=HW2.out.2; show B < w2.heap.size + 1; omega) _)
    refine bodyPost_ret (results_cell_row (p:=2) (ty:=28) (by kernel_rfl) _ _ w.heap.size 28 _ (0,0) _ rfl (pset4 HB0.out _ _ _ _) Tryz.underlying28 rfl (by kernel_rfl)) rfl ?_
    obtain ⟨q1,q2,q3⟩:=fm_end (t:=.mk op ⟨#[]⟩ [] [f]) (lo:=w2.heap.size) (((HK.Frm.refl _ w).alloc _).trans HF3.out) HP8.out HLT.out ⟨⟨none,0,0⟩,⟨some ⟨w6.heap.size,0,none⟩,1,1⟩,rfl,.nil _ _,one_form (a:=⟨ga1,gn1,gc1⟩) (s:=⟨gs1,gm1,gd1⟩) HFN.out ⟨Nat.le_of_lt HSZ6.out.1,HK.blk_lt HFN.out⟩ ((show IsTs (SL' (w2.heap.size + 1) w6.heap.size) _ _ _ by simpa using HVT1.out.1).turn HU.out.turn) ((show IsFs (SL' (w2.heap.size + 1) w6.heap.size) _ _ _ by simpa using HVT1.out.2.1).turn HU.out.turn) HVT1.out.2.2,hop9,by show (0:Nat) <= maxLen; decide⟩ (HW2.out.1) (Value.int .u8 (op:Int)) (Value.string ⟨#[]⟩) (Value.slice none 0 0) (Value.slice (some ⟨w6.heap.size,0,none⟩) 1 1)
    exact ⟨q1,⟨_,rfl,q2⟩,q3⟩
   ·have HL:=hid (hIU _ _ h1)
    unfold RetP at HL
    clear h1 hr IH hIU c8
    go_enter Tryz.func79,Tryz.ntmps79
    go_wp2_with (first
     | (go_at_call 54; ((with_reducible refine (begin_yes (HP0.out.alloc _) C0.out).mono ?_); rintro e w0 ⟨rfl,rfl⟩))
     | (go_at_call 110; ((with_reducible refine HUN.out.mono ?_); rintro e w1 ⟨rfl,hB1,es,cl,hm1,hg1⟩; have HB1:Hid (Below (w.alloc (Obj.cells #[.int .u8 0,.string ⟨#[]⟩,.slice none 0 0,.slice none 0 0] 28)).heap.size (w.alloc (Obj.cells #[.int .u8 0,.string ⟨#[]⟩,.slice none 0 0,.slice none 0 0] 28)) w1):=hid (by simpa using hB1); have HM1:=hid hm1; have HG1:=hid hg1; clear hB1 hm1 hg1))
     | (go_at_call 48; ((with_reducible refine (HTOK.out _ ((HP0.out.alloc _).below HB1.out)).mono ?_); rintro e w2 ⟨rfl,hB2⟩; have hlk:=HLK.out w2 es cl ((hB2.block _ (HK.blk_lt HM1.out)).trans HM1.out) HG1.out; have HP2:=hid (((HP0.out.alloc _).below HB1.out).below hB2); have HF2:Hid (FJ B (w.alloc (Obj.cells #[.int .u8 0,.string ⟨#[]⟩,.slice none 0 0,.slice none 0 0] 28)) w2):=hid ((frm_below HB1.out).trans (frm_below hB2)); clear hB2; have p1:=HK.blk_cell HP2.out.pb 1; have f1:=HK.blk_frozen HP2.out.pb 1; have HW2:Hid (w.heap.size < w2.heap.size /\ B < w2.heap.size):=hid (by have h1:=HF2.out.size; have h2:=HBL.out; simp at h1; omega); have hP4:=(HP2.out.step HKZ.out).alloc (Obj.cells #[.int .u8 (op:Int),.string ⟨#[]⟩,.slice none 0 0,.slice none 0 0] 28); have p2:=HK.blk_cell hP4.pb 2; have f2:=HK.blk_frozen hP4.pb 2; have hb5:=HK.blk_new (w2.setCell ⟨B,1,none⟩ (.int .i64 ((k:Int) + 1))) (Obj.cells #[.int .u8 (op:Int),.string ⟨#[]⟩,.slice none 0 0,.slice none 0 0] 28); simp only [World.size_setCell] at hb5; have HB5:=hid hb5; have HP5:=hid (hP4.up HTT.out (by have:=HHS.out; have:=HTT.out; omega)); have HF5:=hid (FJ.nest ((HF2.out.setCell (p:=⟨B,1,none⟩) (.inl rfl) (.int .i64 ((k:Int) + 1))).alloc (Obj.cells #[.int .u8 (op:Int),.string ⟨#[]⟩,.slice none 0 0,.slice none 0 0] 28)) (.int .i64 ((s:Int) + 1))); clear hP4 hb5))
     | (go_at_call 79; ((with_reducible refine (HL.out _ HP5.out).mono ?_); rintro e w6 ⟨hF6,he⟩; unfold failE at he; subst he)))
    exact ⟨rfl,((HK.Frm.refl _ w).alloc _).trans (HF5.out.trans hF6),by unfold failE; rfl⟩
end
end Go.Proofs.YtdobflpbkfkmgaaGreatDoor
