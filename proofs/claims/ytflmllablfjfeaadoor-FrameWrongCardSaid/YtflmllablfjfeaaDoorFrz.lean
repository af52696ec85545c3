import Derived.Test.YtflmllablfjfeaaDoorSmi
namespace Go.Proofs.YtflmllablfjfeaaDoor
open Go.RowKit Go.HK Go.FR Lib
set_option linter.unusedVariables false
set_option linter.unusedSimpArgs false
set_option linter.unusedSectionVars false
theorem box_m {W:World} {k:Nat} {z lp:Int} {r0:Option Addr} {r1 r2:Nat} {f0:Option Addr} {f1 f2:Nat} {u0:Option Addr} {u1 u2:Nat} {b0:Option Addr} {b1 b2:Nat} {m:Mdl}
  (h:IsMv W (.agg #[.int .u8 (k:Int),.int .i64 z,.slice r0 r1 r2,.int .i64 lp,.slice f0 f1 f2,.slice u0 u1 u2,.slice b0 b1 b2]) m) :
  MB (W.alloc (.cells #[.int .u8 (k:Int),.int .i64 z,.slice r0 r1 r2,.int .i64 lp,.slice f0 f1 f2,.slice u0 u1 u2,.slice b0 b1 b2] 30)) W.heap.size m:=by
 obtain ⟨hh,h1,h2⟩:=mv_of (h.below (below_alloc W (.cells #[.int .u8 (k:Int),.int .i64 z,.slice r0 r1 r2,.int .i64 lp,.slice f0 f1 f2,.slice u0 u1 u2,.slice b0 b1 b2] 30)))
 obtain ⟨⟨ra,rn,rc⟩,⟨fa,fn,fc⟩,⟨ua,un,uc⟩,⟨ba,bn,bc⟩⟩:=hh
 unfold Mdl.v at h1
 simp only [SL.v] at h1
 injection h1 with h1
 have e:=congrArg Array.toList h1
 simp only [List.cons.injEq,Value.int.injEq,Value.slice.injEq,Int.natCast_inj,true_and,and_true] at e
 obtain ⟨e1,e2,⟨rfl,rfl,rfl⟩,e3,⟨rfl,rfl,rfl⟩,⟨rfl,rfl,rfl⟩,rfl,rfl,rfl⟩:=e
 exact ⟨k,z,lp,_,_,_,_,_,_,_,_,_,_,_,_,HK.blk_new _ _,e1.symm,e2.symm,e3.symm,h2⟩
def awM1:Mdl:=⟨3,2,[3,2].map fun x:Nat => (x:Int),0,factL 0 [2],0,0⟩
def awM2:Mdl:=⟨4,2,[2,1].map fun x:Nat => (x:Int),0,factL 0 [2],0,0⟩
def AtIs (m:Mdl) (f:Fm) (v:Nat):Prop:=nodesF f <= 10000 /\ rightK m.kind f = true /\ m.lack f = false /\ m.sem f = v
def HoIs (m:Mdl) (f:Fm) (v:Bool):Prop:=nodesF f <= 10000 /\ rightK m.kind f = true /\ m.lack f = false /\ (m.sem f).testBit 0 = v
def fP:Fm:=AtomF (pqr 0)
def fN:Fm:=.mk 3 ⟨#[]⟩ [] [fP]
theorem aw_o1:awM1.ok = true:=by decide +kernel
theorem aw_o2:awM2.ok = true:=by decide +kernel
theorem aw_1:AtIs awM1 fP 2:=⟨by decide +kernel,by decide +kernel,by decide +kernel,by decide +kernel⟩
theorem aw_2:AtIs awM1 fN 0:=⟨by decide +kernel,by decide +kernel,by decide +kernel,by decide +kernel⟩
theorem aw_3:AtIs awM1 (.mk 5 ⟨#[]⟩ [] [fP,fN]) 2:=⟨by decide +kernel,by decide +kernel,by decide +kernel,by decide +kernel⟩
theorem aw_4:AtIs awM1 (.mk 3 ⟨#[]⟩ [] [fN]) 3:=⟨by decide +kernel,by decide +kernel,by decide +kernel,by decide +kernel⟩
theorem aw_5:AtIs awM2 (.mk 10 ⟨#[]⟩ [] [fP]) 1:=⟨by decide +kernel,by decide +kernel,by decide +kernel,by decide +kernel⟩
theorem aw_6:AtIs awM2 (.mk 11 ⟨#[]⟩ [] [.mk 11 ⟨#[]⟩ [] [fP]]) 2:=⟨by decide +kernel,by decide +kernel,by decide +kernel,by decide +kernel⟩
theorem aw_7:AtIs awM2 (.mk 6 ⟨#[]⟩ [] [fP,.mk 10 ⟨#[]⟩ [] [.mk 11 ⟨#[]⟩ [] [fP]]]) 3:=⟨by decide +kernel,by decide +kernel,by decide +kernel,by decide +kernel⟩
theorem aw_8:HoIs awM2 (.mk 10 ⟨#[]⟩ [] [fP]) true:=⟨by decide +kernel,by decide +kernel,by decide +kernel,by decide +kernel⟩
theorem isS1 {W:World} (s:ByteArray) (hs:s.size <= maxLen:=by first | (show (1:Nat) <= maxLen; unfold maxLen; omega) | assumption):IsS (W.alloc (.cells #[.string s] 9)) W.heap.size 0 [s]:=fun i x hx => by
 cases i with
 | succ i => simp at hx
 | zero => simp at hx; subst hx; exact ⟨by rw [HK.blk_cell (HK.blk_new _ _)]; rfl,hs⟩
theorem count_val {W:World} {g o n c N:Nat} {ss:List ByteArray} (kind size:Nat) (hS:IsS W g o ss) (h:ss.length = n /\ n <= 100 /\ kind < 256 /\ size <= 100 /\ wrongB kind 0 (size:Int) = false /\ incK ss ss.length = true /\ countS (decide (kind = 3)) 0 ss.length size = N /\ N <= 16384) :
  Calls Tryd.prog 32 #[.int .u8 (kind:Int),.int .u8 0,.slice (some ⟨g,o,none⟩) n c,.int .i64 (size:Int)] W fun e w' => e = .returned (.tuple #[.int .i64 (N:Int),.int .i64 0]) /\ Below W.heap.size W w':=by
 obtain ⟨h1,h2,h3,h4,h5,h6,h7,h8⟩:=h
 have:=count32_call W kind 0 (size:Int) g o n c ss hS h1 (by omega) h3 (by omega) (by omega)
 refine this.mono fun e w' hh => ?_
 unfold RetCount at hh
 rw [h5,h6] at hh
 simp only [Bool.false_eq_true,Bool.true_eq_false,or_self,if_false,Int.toNat_natCast,h7] at hh
 rw [if_neg (by omega)] at hh
 exact ⟨hh.2,hh.1⟩
theorem cnt1:[pqr 0].length = 1 /\ 1 <= 100 /\ 3 < 256 /\ 1 <= 100 /\ wrongB 3 0 ((1:Nat):Int) = false /\ incK [pqr 0] [pqr 0].length = true /\ countS (decide (3 = 3)) 0 [pqr 0].length 1 = 2 /\ 2 <= 16384:=by decide +kernel
theorem cnt2:[pqr 0].length = 1 /\ 1 <= 100 /\ 3 < 256 /\ 2 <= 100 /\ wrongB 3 0 ((2:Nat):Int) = false /\ incK [pqr 0] [pqr 0].length = true /\ countS (decide (3 = 3)) 0 [pqr 0].length 2 = 3 /\ 3 <= 16384:=by decide +kernel
theorem cnt3:[pqr 0].length = 1 /\ 1 <= 100 /\ 4 < 256 /\ 2 <= 100 /\ wrongB 4 0 ((2:Nat):Int) = false /\ incK [pqr 0] [pqr 0].length = true /\ countS (decide (4 = 3)) 0 [pqr 0].length 2 = 64 /\ 64 <= 16384:=by decide +kernel
theorem frok240:FrOk [2,4,0]:=⟨by decide,fun w s h => by
 match w,h with
 | 0,h => simp at h; subst h; decide
 | 1,h => simp at h; subst h; decide
 | 2,h => simp at h; subst h; decide
 | w + 3,h => simp at h⟩
def cloR (c:Nat) (cur:List Nat) (w:Nat):List Nat:=cur.set w (cur.getD w 0 ||| lackS c cur w)
theorem cloR_i {c:Nat} {rel cur:List Nat} (h:CloI c rel cur) (w:Nat) (hw:w < rel.length):CloI c rel (cloR c cur w):=h.step (w:=w) (by rw [h.len]; exact hw)
theorem clo2:CloP 2 [2,4,0] [6,4,0]:=by
 have h:=cloR_i (CloI.start (c:=2) frok240) 0 (by decide)
 rw [show cloR 2 [2,4,0] 0 = [6,4,0] by decide +kernel] at h
 exact ⟨h,(lackAll_iff h.ok).1 (by decide +kernel)⟩
theorem clo7:CloP 7 [2,4,0] [7,7,7]:=by
 have h:=cloR_i (cloR_i (cloR_i (cloR_i (cloR_i (cloR_i (cloR_i (cloR_i (cloR_i (CloI.start (c:=7) frok240) 0 (by decide)) 1 (by decide)) 2 (by decide)) 0 (by decide)) 1 (by decide)) 2 (by decide)) 0 (by decide)) 1 (by decide)) 2 (by decide)
 rw [show cloR 7 (cloR 7 (cloR 7 (cloR 7 (cloR 7 (cloR 7 (cloR 7 (cloR 7 (cloR 7 [2,4,0] 0) 1) 2) 0) 1) 2) 0) 1) 2 = [7,7,7] by decide +kernel] at h
 exact ⟨h,(lackAll_iff h.ok).1 (by decide +kernel)⟩
theorem same3 {W:World} {b g c B x y z:Nat} (h:W.ownsRow b 3 1 (.slice (some ⟨g,0,none⟩) 3 c) 3 (ints [x,y,z])) (hb:W.heap[B]? = some (.cells #[.int .i64 (x:Int),.int .i64 (y:Int),.int .i64 (z:Int)] 3 (0,0))):Calls Tryd.prog 27 #[.slice (some ⟨g,0,none⟩) 3 c,.slice (some ⟨B,0,none⟩) 3 3] W (RetW W true):=by
 have:=same_call W ⟨some ⟨g,0,none⟩,3,c⟩ ⟨some ⟨B,0,none⟩,3,3⟩ [(x:Int),y,z] [(x:Int),y,z] (S:=fun _ => True) (T:=fun _ => True) ⟨rfl,fun i u hu => ⟨g,0,rfl,trivial,(isR_own h).z i u hu⟩⟩ ⟨rfl,fun i u hu => ⟨B,0,rfl,trivial,(isR3 hb).z i u hu⟩⟩ (by simp)
 rw [decide_eq_true rfl] at this
 exact this
set_option maxRecDepth 100000 in
set_option maxHeartbeats 16000000 in
theorem awake_call (w:World) (hrw:IsRows w):Calls Tryd.prog 12 #[] w (RetW w true):=by
 have HRW:=hid hrw
 have HBL:=hid (Below.refl w.heap.size w)
 have HA1:Hid (AtIs awM1 (AtomF (pqr 0)) 2):=hid aw_1
 have HA2:Hid (AtIs awM1 (.mk 3 ⟨#[]⟩ [] [AtomF (pqr 0)]) 0):=hid aw_2
 have HA3:Hid (AtIs awM1 (.mk 5 ⟨#[]⟩ [] [AtomF (pqr 0),.mk 3 ⟨#[]⟩ [] [AtomF (pqr 0)]]) 2):=hid aw_3
 have HA4:Hid (AtIs awM1 (.mk 3 ⟨#[]⟩ [] [.mk 3 ⟨#[]⟩ [] [AtomF (pqr 0)]]) 3):=hid aw_4
 have HA5:Hid (AtIs awM2 (.mk 10 ⟨#[]⟩ [] [AtomF (pqr 0)]) 1):=hid aw_5
 have HA6:Hid (AtIs awM2 (.mk 11 ⟨#[]⟩ [] [.mk 11 ⟨#[]⟩ [] [AtomF (pqr 0)]]) 2):=hid aw_6
 have HA7:Hid (AtIs awM2 (.mk 6 ⟨#[]⟩ [] [AtomF (pqr 0),.mk 10 ⟨#[]⟩ [] [.mk 11 ⟨#[]⟩ [] [AtomF (pqr 0)]]]) 3):=hid aw_7
 have HA8:Hid (HoIs awM2 (.mk 10 ⟨#[]⟩ [] [AtomF (pqr 0)]) true):=hid aw_8
 have HO1:=hid aw_o1
 have HO2:=hid aw_o2
 clear hrw
 go_enter Tryd.func12,Tryd.ntmps12
 go_upto_region 1 with (fail)
 go_cut [1] from 20 to 20 (fun v1 wx => ∃ B,v1 = .pointer (some ⟨B,0,none⟩) /\ FmB wx B (AtomF (pqr 0)) /\ Below w.heap.size w wx)
 case first =>
  go_wp2_with (go_at_call 29; ((with_reducible refine (atom_call _ _).mono ?_); rintro e w' ⟨rfl,rfl⟩))
  go_meet
  have hfv:IsFv (w.alloc (.cells #[.int .u8 1,.string ⟨#[80]⟩,.slice none 0 0,.slice none 0 0] 35)) (.agg #[.int .u8 ((1:Nat):Int),.string ⟨#[80]⟩,.slice none 0 0,.slice none 0 0]) (AtomF (pqr 0)):=of_fv (isFm_atom 0)
  have hbf:=box_f hfv
  rw [World.size_alloc] at hbf
  exact ⟨_,rfl,hbf,below_tr (below_alloc _ _) (below_alloc _ _)⟩
 case rest =>
  obtain ⟨B1,rfl,hnew,hB⟩:=hcut
  have HF1:=hid hnew
  replace HRW:=hid (HRW.out.below hB)
  replace HBL:=hid (below_tr HBL.out hB)
  obtain ⟨q1,hq1⟩:∃ q:World,q = wc:=⟨_,rfl⟩
  subst hq1
  clear hnew hB
  go_upto_region 2 with (fail)
  go_cut [2] from 21 to 23 (fun v2 wx => ∃ B,v2 = .pointer (some ⟨B,0,none⟩) /\ FmB wx B (.mk 3 ⟨#[]⟩ [] [AtomF (pqr 0)]) /\ Below q1.heap.size q1 wx)
  case first =>
   obtain ⟨o,nm,a0,a1,a2,s0,s1,s2,hb,h2,h3,h4⟩:=HF1.out
   have cc:=HK.blk_cell hb
   have c0:=cc 0
   have c1:=cc 1
   have c2:=cc 2
   have c3:=cc 3
   clear cc
   have hbs:=build1 h2 h3 h4
   have hbb:=below_alloc q1 (.cells #[.int .u8 (o:Int),.string nm,.slice a0 a1 a2,.slice s0 s1 s2] 35)
   have HC:Hid (Calls Tryd.prog 15 #[.int .u8 3,.slice (some ⟨q1.heap.size,0,none⟩) 1 1] _ fun e w' => e = .returned (.agg #[.int .u8 3,.string ⟨#[]⟩,.slice none 0 0,.slice (some ⟨q1.heap.size,0,none⟩) 1 1]) /\ IsFv w' (.agg #[.int .u8 3,.string ⟨#[]⟩,.slice none 0 0,.slice (some ⟨q1.heap.size,0,none⟩) 1 1]) (.mk 3 ⟨#[]⟩ [] [AtomF (pqr 0)]) /\ Below _ _ w'):=hid (joinv (op:=3) (by omega) hbs)
   have HBB:=hid hbb
   clear hbs hbb
   go_wp2_with (go_at_call 15; ((with_reducible refine HC.out.mono ?_); rintro e w' ⟨rfl,hfv,hB⟩))
   go_meet
   exact ⟨_,rfl,box_f (o:=3) hfv,below_tr (below_tr HBB.out hB) (below_alloc _ _)⟩
  case rest =>
   obtain ⟨B2,rfl,hnew,hB⟩:=hcut
   replace HF1:=hid (HF1.out.below hB)
   have HF2:=hid hnew
   replace HRW:=hid (HRW.out.below hB)
   replace HBL:=hid (below_tr HBL.out hB)
   obtain ⟨q2,hq2⟩:∃ q:World,q = wc:=⟨_,rfl⟩
   subst hq2
   clear hnew hB
   go_upto_region 3 with (fail)
   go_cut [3] from 24 to 27 (fun v3 wx => ∃ B,v3 = .pointer (some ⟨B,0,none⟩) /\ MB wx B awM1 /\ Below q2.heap.size q2 wx)
   case first =>
    have hg1:(q2.alloc (.cells #[.int .i64 3,.int .i64 2] 3)).heap[q2.heap.size]? = some (.cells #[.int .i64 3,.int .i64 2] 3 (0,0)):=HK.blk_new _ _
    have hown1:(q2.alloc (.cells #[.int .i64 3,.int .i64 2] 3)).ownsRow q2.heap.size 3 1 (.slice (some ⟨q2.heap.size,0,none⟩) 2 2) 2 (ints [3,2]):=⟨rfl,.inr ⟨_,2,_,rfl,Nat.le_refl _,hg1,Nat.le_refl _,by unfold maxLen; omega,rfl,rfl⟩⟩
    have hg2:((q2.alloc (.cells #[.int .i64 3,.int .i64 2] 3)).alloc (.cells #[.int .i64 2] 3)).heap[q2.heap.size + 1]? = some (.cells #[.int .i64 2] 3 (0,0)):=by have:=HK.blk_new (q2.alloc (.cells #[.int .i64 3,.int .i64 2] 3)) (.cells #[.int .i64 2] 3); rwa [World.size_alloc] at this
    have hR2:IsR ((q2.alloc (.cells #[.int .i64 3,.int .i64 2] 3)).alloc (.cells #[.int .i64 2] 3)) (q2.heap.size + 1) 0 [2]:=fun i x hx => by
     rw [Nat.zero_add,HK.blk_cell hg2]
     cases i with
     | zero => simp at hx; subst hx; rfl
     | succ i => simp at hx
    have HC:=hid (facts_call ((q2.alloc (.cells #[.int .i64 3,.int .i64 2] 3)).alloc (.cells #[.int .i64 2] 3)) (q2.heap.size + 1) 0 1 1 [2] hR2 rfl (by omega))
    have HO1:=hid (hown1.alloc (.cells #[.int .i64 2] 3))
    have HBB:Hid (Below q2.heap.size q2 ((q2.alloc (.cells #[.int .i64 3,.int .i64 2] 3)).alloc (.cells #[.int .i64 2] 3))):=hid (below_tr (below_alloc _ _) (below_alloc _ _))
    unfold RetFa at HC
    clear hg1 hown1 hg2 hR2
    go_wp2_with (go_at_call 38; ((with_reducible refine HC.out.mono ?_); rintro e w' ⟨v,rfl,hB,hown⟩; obtain ⟨fg,fc,rfl,_,_⟩:=own_form9 hown (by decide)))
    go_meet
    have hmv:=mv_own (kind:=3) (by omega) (own_below9 HO1.out hB) (b2:=_) (l:=[2]) hown (rel:=[3,2]) rfl (by simp) 2
    exact ⟨_,rfl,box_m hmv,below_tr (below_tr HBB.out hB) (below_alloc _ _)⟩
   case rest =>
    obtain ⟨B3,rfl,hnew,hB⟩:=hcut
    replace HF1:=hid (HF1.out.below hB)
    replace HF2:=hid (HF2.out.below hB)
    have HM3:=hid hnew
    replace HRW:=hid (HRW.out.below hB)
    replace HBL:=hid (below_tr HBL.out hB)
    obtain ⟨q3,hq3⟩:∃ q:World,q = wc:=⟨_,rfl⟩
    subst hq3
    clear hnew hB
    go_upto_region 4 with (fail)
    go_cut [4,5] from 28 to 33 (fun v4 v5 wx => v4 = .int .i64 (2:Int) /\ v5 = .int .i64 0 /\ Below q3.heap.size q3 wx)
    case first =>
     obtain ⟨o,nm,a0,a1,a2,s0,s1,s2,hb,h2,h3,h4⟩:=HF1.out
     have cc:=HK.blk_cell hb
     have c0:=cc 0
     have c1:=cc 1
     have c2:=cc 2
     have c3:=cc 3
     clear cc
     obtain ⟨mk',mz',lp',r0',r1',r2',t0',t1',t2',u0',u1',u2',b0',b1',b2',hb',h2',h3',h5',h4'⟩:=HM3.out
     have cc':=HK.blk_cell hb'
     have c0':=cc' 0
     have c1':=cc' 1
     have c2':=cc' 2
     have c3':=cc' 3
     have c4':=cc' 4
     have c5':=cc' 5
     have c6':=cc' 6
     clear cc'
     have hc:=at_valv (W:=q3) ⟨mk',mz',lp',r0',r1',r2',t0',t1',t2',u0',u1',u2',b0',b1',b2',rfl,h2',h3',h5',h4'⟩ ⟨o,nm,a0,a1,a2,s0,s1,s2,rfl,h2,h3,h4⟩ HRW.out HA1.out.1 HO1.out HA1.out.2.1 HA1.out.2.2.1 HA1.out.2.2.2
     have HC:Hid (Calls Tryd.prog 16 _ _ fun e w' => e = .returned (.tuple #[.int .i64 (2:Int),.int .i64 0]) /\ _):=hid hc
     clear hc h2 h3 h4 h2' h3' h4' h5' hb hb'
     go_wp2_with (go_at_call 16; ((with_reducible refine HC.out.mono ?_); rintro e w' ⟨rfl,hB⟩))
     go_meet
     exact ⟨rfl,rfl,hB⟩
    case rest =>
     obtain ⟨rfl,rfl,hB⟩:=hcut
     replace HF1:=hid (HF1.out.below hB)
     replace HF2:=hid (HF2.out.below hB)
     replace HM3:=hid (HM3.out.below hB)
     replace HRW:=hid (HRW.out.below hB)
     replace HBL:=hid (below_tr HBL.out hB)
     obtain ⟨q4,hq4⟩:∃ q:World,q = wc:=⟨_,rfl⟩
     subst hq4
     clear hB
     go_upto_region 5 with (fail)
     go_cut [6,7] from 34 to 39 (fun v6 v7 wx => v6 = .int .i64 (0:Int) /\ v7 = .int .i64 0 /\ Below q4.heap.size q4 wx)
     case first =>
      obtain ⟨o,nm,a0,a1,a2,s0,s1,s2,hb,h2,h3,h4⟩:=HF2.out
      have cc:=HK.blk_cell hb
      have c0:=cc 0
      have c1:=cc 1
      have c2:=cc 2
      have c3:=cc 3
      clear cc
      obtain ⟨mk',mz',lp',r0',r1',r2',t0',t1',t2',u0',u1',u2',b0',b1',b2',hb',h2',h3',h5',h4'⟩:=HM3.out
      have cc':=HK.blk_cell hb'
      have c0':=cc' 0
      have c1':=cc' 1
      have c2':=cc' 2
      have c3':=cc' 3
      have c4':=cc' 4
      have c5':=cc' 5
      have c6':=cc' 6
      clear cc'
      have hc:=at_valv (W:=q4) ⟨mk',mz',lp',r0',r1',r2',t0',t1',t2',u0',u1',u2',b0',b1',b2',rfl,h2',h3',h5',h4'⟩ ⟨o,nm,a0,a1,a2,s0,s1,s2,rfl,h2,h3,h4⟩ HRW.out HA2.out.1 HO1.out HA2.out.2.1 HA2.out.2.2.1 HA2.out.2.2.2
      have HC:Hid (Calls Tryd.prog 16 _ _ fun e w' => e = .returned (.tuple #[.int .i64 (0:Int),.int .i64 0]) /\ _):=hid hc
      clear hc h2 h3 h4 h2' h3' h4' h5' hb hb'
      go_wp2_with (go_at_call 16; ((with_reducible refine HC.out.mono ?_); rintro e w' ⟨rfl,hB⟩))
      go_meet
      exact ⟨rfl,rfl,hB⟩
     case rest =>
      obtain ⟨rfl,rfl,hB⟩:=hcut
      replace HF1:=hid (HF1.out.below hB)
      replace HF2:=hid (HF2.out.below hB)
      replace HM3:=hid (HM3.out.below hB)
      replace HRW:=hid (HRW.out.below hB)
      replace HBL:=hid (below_tr HBL.out hB)
      obtain ⟨q5,hq5⟩:∃ q:World,q = wc:=⟨_,rfl⟩
      subst hq5
      clear hB
      go_upto_region 6 with (fail)
      go_cut [8,9] from 40 to 48 (fun v8 v9 wx => v8 = .int .i64 (2:Int) /\ v9 = .int .i64 0 /\ Below q5.heap.size q5 wx)
      case first =>
       refine Go.RE.wp_region_eachg [41,42,43,44,45,46,40,47,48,8,9] (fun L x W => (Below q5.heap.size q5 W) /\ (L 0 = true -> IsMv W (x 41) (awM1)) /\ (L 1 = true -> IsFv W (x 42) (AtomF (pqr 0))) /\ (L 2 = true -> IsFv W (x 43) (.mk 3 ⟨#[]⟩ [] [AtomF (pqr 0)])) /\ (L 3 = true -> IsFsV W (x 44) [AtomF (pqr 0),.mk 3 ⟨#[]⟩ [] [AtomF (pqr 0)]]) /\ (L 4 = true -> IsFv W (x 45) (.mk 5 ⟨#[]⟩ [] [AtomF (pqr 0),.mk 3 ⟨#[]⟩ [] [AtomF (pqr 0)]])) /\ (L 5 = true -> x 46 = .tuple #[.int .i64 (2:Int),.int .i64 0]) /\ (L 6 = true -> x 40 = .tuple #[.int .i64 (2:Int),.int .i64 0]) /\ (L 7 = true -> x 47 = .int .i64 (2:Int)) /\ (L 8 = true -> x 48 = .int .i64 0) /\ (L 9 = true -> x 8 = .int .i64 (2:Int)) /\ (L 10 = true -> x 9 = .int .i64 0)) (by kernel_rfl) (by kernel_rfl) (by kernel_rfl) ?_ ((Go.RE.Each.cons ?_ (Go.RE.Each.cons ?_ (Go.RE.Each.cons ?_ (Go.RE.Each.cons ?_ (Go.RE.Each.cons ?_ (Go.RE.Each.cons ?_ (Go.RE.Each.cons ?_ (Go.RE.Each.cons ?_ (Go.RE.Each.cons ?_ (Go.RE.Each.cons ?_ (Go.RE.Each.cons ?_ Go.RE.Each.nil)))))))))))) ?_
       ·exact fun x => ⟨bl_dr (Below.refl _ _),fun h => (by cases h),fun h => (by cases h),fun h => (by cases h),fun h => (by cases h),fun h => (by cases h),fun h => (by cases h),fun h => (by cases h),fun h => (by cases h),fun h => (by cases h),fun h => (by cases h),fun h => (by cases h)⟩
       ·intro L x a wR K hL hd hf hx hΦ hK
        obtain ⟨hI,f0,f1,f2,f3,f4,f5,f6,f7,f8,f9,f10⟩:=hΦ
        refine ⟨fun _ => ?_,fun h => absurd h (by rw [Go.RE.wanted_none rfl]; decide)⟩
        have e3:a.tmps[3]? = some (.pointer (some ⟨B3,0,none⟩)):=hf 3 (of_decide_eq_true (by kernel_rfl))
        clear hf hx hd
        obtain ⟨mk,mz,lp,r0,r1,r2,t0,t1,t2,u0,u1,u2,b0,b1,b2,hb,h2,h3,h5,h4⟩:=(HM3.out.below hI)
        have cc:=HK.blk_cell hb
        have c0:=cc 0
        have c1:=cc 1
        have c2:=cc 2
        have c3:=cc 3
        have c4:=cc 4
        have c5:=cc 5
        have c6:=cc 6
        clear cc
        go_simp
        refine hK _ _ ?_
        exact ⟨hI,fun _ => ⟨mk,mz,lp,r0,r1,r2,t0,t1,t2,u0,u1,u2,b0,b1,b2,rfl,h2,h3,h5,h4⟩,fun h => f1 h,fun h => f2 h,fun h => f3 h,fun h => f4 h,fun h => f5 h,fun h => f6 h,fun h => f7 h,fun h => f8 h,fun h => f9 h,fun h => f10 h⟩
       ·intro L x a wR K hL hd hf hx hΦ hK
        obtain ⟨hI,f0,f1,f2,f3,f4,f5,f6,f7,f8,f9,f10⟩:=hΦ
        refine ⟨fun _ => ?_,fun h => absurd h (by rw [Go.RE.wanted_none rfl]; decide)⟩
        have e1:a.tmps[1]? = some (.pointer (some ⟨B1,0,none⟩)):=hf 1 (of_decide_eq_true (by kernel_rfl))
        clear hf hx hd
        obtain ⟨o,nm,a0,a1,a2,s0,s1,s2,hb,h2,h3,h4⟩:=(HF1.out.below hI)
        have cc:=HK.blk_cell hb
        have c0:=cc 0
        have c1:=cc 1
        have c2:=cc 2
        have c3:=cc 3
        clear cc
        go_simp
        refine hK _ _ ?_
        exact ⟨hI,fun h => f0 h,fun _ => ⟨o,nm,a0,a1,a2,s0,s1,s2,rfl,h2,h3,h4⟩,fun h => f2 h,fun h => f3 h,fun h => f4 h,fun h => f5 h,fun h => f6 h,fun h => f7 h,fun h => f8 h,fun h => f9 h,fun h => f10 h⟩
       ·intro L x a wR K hL hd hf hx hΦ hK
        obtain ⟨hI,f0,f1,f2,f3,f4,f5,f6,f7,f8,f9,f10⟩:=hΦ
        refine ⟨fun _ => ?_,fun h => absurd h (by rw [Go.RE.wanted_none rfl]; decide)⟩
        have e2:a.tmps[2]? = some (.pointer (some ⟨B2,0,none⟩)):=hf 2 (of_decide_eq_true (by kernel_rfl))
        clear hf hx hd
        obtain ⟨o,nm,a0,a1,a2,s0,s1,s2,hb,h2,h3,h4⟩:=(HF2.out.below hI)
        have cc:=HK.blk_cell hb
        have c0:=cc 0
        have c1:=cc 1
        have c2:=cc 2
        have c3:=cc 3
        clear cc
        go_simp
        refine hK _ _ ?_
        exact ⟨hI,fun h => f0 h,fun h => f1 h,fun _ => ⟨o,nm,a0,a1,a2,s0,s1,s2,rfl,h2,h3,h4⟩,fun h => f3 h,fun h => f4 h,fun h => f5 h,fun h => f6 h,fun h => f7 h,fun h => f8 h,fun h => f9 h,fun h => f10 h⟩
       ·intro L x a wR K hL hd hf hx hΦ hK
        obtain ⟨hI,f0,f1,f2,f3,f4,f5,f6,f7,f8,f9,f10⟩:=hΦ
        refine ⟨fun _ => ?_,fun h => absurd h (by rw [Go.RE.wanted_none rfl]; decide)⟩
        have d1:=f1 (hd 1 (by kernel_rfl))
        have e42:a.tmps[42]? = some (x 42):=hx 1 _ 42 rfl rfl (hd 1 (by kernel_rfl))
        have d2:=f2 (hd 2 (by kernel_rfl))
        have e43:a.tmps[43]? = some (x 43):=hx 2 _ 43 rfl rfl (hd 2 (by kernel_rfl))
        clear hf hx hd
        obtain ⟨o,nm,a0,a1,a2,s0,s1,s2,hv,h2,h3,h4⟩:=d1
        rw [hv] at e42
        obtain ⟨o',nm',a0',a1',a2',s0',s1',s2',hv',h2',h3',h4'⟩:=d2
        rw [hv'] at e43
        go_simp
        refine hK _ _ ?_
        exact ⟨below_tr hI (below_alloc _ _),fun h => (f0 h).below (below_alloc wR _),fun h => (f1 h).below (below_alloc wR _),fun h => (f2 h).below (below_alloc wR _),fun _ => build2 h2 h3 h4 h2' h3' h4',fun h => (f4 h).below (below_alloc wR _),fun h => f5 h,fun h => f6 h,fun h => f7 h,fun h => f8 h,fun h => f9 h,fun h => f10 h⟩
       ·intro L x a wR K hL hd hf hx hΦ hK
        obtain ⟨hI,f0,f1,f2,f3,f4,f5,f6,f7,f8,f9,f10⟩:=hΦ
        refine ⟨fun _ => ?_,fun h => absurd h (by rw [Go.RE.wanted_none rfl]; decide)⟩
        have d3:=f3 (hd 3 (by kernel_rfl))
        have e44:a.tmps[44]? = some (x 44):=hx 3 _ 44 rfl rfl (hd 3 (by kernel_rfl))
        clear hf hx hd
        obtain ⟨s0,s1,s2,hv,h2⟩:=d3
        rw [hv] at e44
        have HC:Hid (Calls Tryd.prog 15 #[.int .u8 5,.slice s0 s1 s2] wR fun e w' => e = .returned (.agg #[.int .u8 5,.string ⟨#[]⟩,.slice none 0 0,.slice s0 s1 s2]) /\ IsFv w' (.agg #[.int .u8 5,.string ⟨#[]⟩,.slice none 0 0,.slice s0 s1 s2]) (.mk 5 ⟨#[]⟩ [] [AtomF (pqr 0),.mk 3 ⟨#[]⟩ [] [AtomF (pqr 0)]]) /\ Below wR.heap.size wR w'):=hid (joinv (op:=5) (by omega) ⟨s0,s1,s2,rfl,h2⟩)
        go_simp
        go_at_call 15
        with_reducible refine HC.out.mono ?_
        rintro e w' ⟨rfl,hfv,hB8⟩
        simp only
        refine hK _ _ ?_
        exact ⟨below_tr hI hB8,fun h => (f0 h).below hB8,fun h => (f1 h).below hB8,fun h => (f2 h).below hB8,fun h => (f3 h).below hB8,fun _ => hfv,fun h => f5 h,fun h => f6 h,fun h => f7 h,fun h => f8 h,fun h => f9 h,fun h => f10 h⟩
       ·intro L x a wR K hL hd hf hx hΦ hK
        obtain ⟨hI,f0,f1,f2,f3,f4,f5,f6,f7,f8,f9,f10⟩:=hΦ
        refine ⟨fun _ => ?_,fun h => absurd h (by rw [Go.RE.wanted_none rfl]; decide)⟩
        have d0:=f0 (hd 0 (by kernel_rfl))
        have e41:a.tmps[41]? = some (x 41):=hx 0 _ 41 rfl rfl (hd 0 (by kernel_rfl))
        have d4:=f4 (hd 4 (by kernel_rfl))
        have e45:a.tmps[45]? = some (x 45):=hx 4 _ 45 rfl rfl (hd 4 (by kernel_rfl))
        clear hf hx hd
        have hc:=at_valv d0 d4 (HRW.out.below hI) HA3.out.1 HO1.out HA3.out.2.1 HA3.out.2.2.1 HA3.out.2.2.2
        obtain ⟨mk,mz,lp,r0,r1,r2,t0,t1,t2,u0,u1,u2,b0,b1,b2,hv,_,_,_,_⟩:=d0
        obtain ⟨o',nm',a0',a1',a2',s0',s1',s2',hv',_,_,_⟩:=d4
        rw [hv] at e41
        rw [hv'] at e45
        rw [hv,hv'] at hc
        have HC:Hid (Calls Tryd.prog 16 _ _ fun e w' => e = .returned (.tuple #[.int .i64 (2:Int),.int .i64 0]) /\ _):=hid hc
        clear hc
        go_simp
        go_at_call 16
        with_reducible refine HC.out.mono ?_
        rintro e w' ⟨rfl,hB8⟩
        simp only
        refine hK _ _ ?_
        exact ⟨below_tr hI hB8,fun h => (f0 h).below hB8,fun h => (f1 h).below hB8,fun h => (f2 h).below hB8,fun h => (f3 h).below hB8,fun h => (f4 h).below hB8,fun _ => rfl,fun h => f6 h,fun h => f7 h,fun h => f8 h,fun h => f9 h,fun h => f10 h⟩
       ·intro L x a wR K hL hd hf hx hΦ hK
        obtain ⟨hI,f0,f1,f2,f3,f4,f5,f6,f7,f8,f9,f10⟩:=hΦ
        refine ⟨fun _ => ?_,fun h => absurd h (by rw [Go.RE.wanted_none rfl]; decide)⟩
        have d5:=f5 (hd 5 (by kernel_rfl))
        have e46:a.tmps[46]? = some (x 46):=hx 5 _ 46 rfl rfl (hd 5 (by kernel_rfl))
        rw [d5] at e46
        clear hf hx hd
        go_simp
        refine hK _ _ ?_
        exact ⟨hI,fun h => f0 h,fun h => f1 h,fun h => f2 h,fun h => f3 h,fun h => f4 h,fun h => f5 h,fun _ => rfl,fun h => f7 h,fun h => f8 h,fun h => f9 h,fun h => f10 h⟩
       ·intro L x a wR K hL hd hf hx hΦ hK
        obtain ⟨hI,f0,f1,f2,f3,f4,f5,f6,f7,f8,f9,f10⟩:=hΦ
        refine ⟨fun _ => ?_,fun h => absurd h (by rw [Go.RE.wanted_none rfl]; decide)⟩
        have d6:=f6 (hd 6 (by kernel_rfl))
        have e40:a.tmps[40]? = some (x 40):=hx 6 _ 40 rfl rfl (hd 6 (by kernel_rfl))
        rw [d6] at e40
        clear hf hx hd
        go_simp
        refine hK _ _ ?_
        exact ⟨hI,fun h => f0 h,fun h => f1 h,fun h => f2 h,fun h => f3 h,fun h => f4 h,fun h => f5 h,fun h => f6 h,fun _ => rfl,fun h => f8 h,fun h => f9 h,fun h => f10 h⟩
       ·intro L x a wR K hL hd hf hx hΦ hK
        obtain ⟨hI,f0,f1,f2,f3,f4,f5,f6,f7,f8,f9,f10⟩:=hΦ
        refine ⟨fun _ => ?_,fun h => absurd h (by rw [Go.RE.wanted_none rfl]; decide)⟩
        have d6:=f6 (hd 6 (by kernel_rfl))
        have e40:a.tmps[40]? = some (x 40):=hx 6 _ 40 rfl rfl (hd 6 (by kernel_rfl))
        rw [d6] at e40
        clear hf hx hd
        go_simp
        refine hK _ _ ?_
        exact ⟨hI,fun h => f0 h,fun h => f1 h,fun h => f2 h,fun h => f3 h,fun h => f4 h,fun h => f5 h,fun h => f6 h,fun h => f7 h,fun _ => rfl,fun h => f9 h,fun h => f10 h⟩
       ·intro L x a wR K hL hd hf hx hΦ hK
        obtain ⟨hI,f0,f1,f2,f3,f4,f5,f6,f7,f8,f9,f10⟩:=hΦ
        refine ⟨fun _ => ?_,fun h => absurd h (by rw [Go.RE.wanted_none rfl]; decide)⟩
        have d7:=f7 (hd 7 (by kernel_rfl))
        have e47:a.tmps[47]? = some (x 47):=hx 7 _ 47 rfl rfl (hd 7 (by kernel_rfl))
        rw [d7] at e47
        clear hf hx hd
        go_simp
        refine hK _ _ ?_
        exact ⟨hI,fun h => f0 h,fun h => f1 h,fun h => f2 h,fun h => f3 h,fun h => f4 h,fun h => f5 h,fun h => f6 h,fun h => f7 h,fun h => f8 h,fun _ => rfl,fun h => f10 h⟩
       ·intro L x a wR K hL hd hf hx hΦ hK
        obtain ⟨hI,f0,f1,f2,f3,f4,f5,f6,f7,f8,f9,f10⟩:=hΦ
        refine ⟨fun _ => ?_,fun h => absurd h (by rw [Go.RE.wanted_none rfl]; decide)⟩
        have d8:=f8 (hd 8 (by kernel_rfl))
        have e48:a.tmps[48]? = some (x 48):=hx 8 _ 48 rfl rfl (hd 8 (by kernel_rfl))
        rw [d8] at e48
        clear hf hx hd
        go_simp
        refine hK _ _ ?_
        exact ⟨hI,fun h => f0 h,fun h => f1 h,fun h => f2 h,fun h => f3 h,fun h => f4 h,fun h => f5 h,fun h => f6 h,fun h => f7 h,fun h => f8 h,fun h => f9 h,fun _ => rfl⟩
       ·rintro x W ⟨hI,f0,f1,f2,f3,f4,f5,f6,f7,f8,f9,f10⟩
        simp only [Exit.then]
        go_step
        go_meet
        exact ⟨f9 rfl,f10 rfl,hI⟩
      case rest =>
       obtain ⟨rfl,rfl,hB⟩:=hcut
       replace HF1:=hid (HF1.out.below hB)
       replace HF2:=hid (HF2.out.below hB)
       replace HM3:=hid (HM3.out.below hB)
       replace HRW:=hid (HRW.out.below hB)
       replace HBL:=hid (below_tr HBL.out hB)
       obtain ⟨q6,hq6⟩:∃ q:World,q = wc:=⟨_,rfl⟩
       subst hq6
       clear hB
       go_upto_region 7 with (fail)
       go_cut [10,11] from 49 to 56 (fun v10 v11 wx => v10 = .int .i64 (3:Int) /\ v11 = .int .i64 0 /\ Below q6.heap.size q6 wx)
       case first =>
        refine Go.RE.wp_region_eachg [50,51,52,53,54,49,55,56,10,11] (fun L x W => (Below q6.heap.size q6 W) /\ (L 0 = true -> IsMv W (x 50) (awM1)) /\ (L 1 = true -> IsFv W (x 51) (.mk 3 ⟨#[]⟩ [] [AtomF (pqr 0)])) /\ (L 2 = true -> IsFsV W (x 52) [.mk 3 ⟨#[]⟩ [] [AtomF (pqr 0)]]) /\ (L 3 = true -> IsFv W (x 53) (.mk 3 ⟨#[]⟩ [] [.mk 3 ⟨#[]⟩ [] [AtomF (pqr 0)]])) /\ (L 4 = true -> x 54 = .tuple #[.int .i64 (3:Int),.int .i64 0]) /\ (L 5 = true -> x 49 = .tuple #[.int .i64 (3:Int),.int .i64 0]) /\ (L 6 = true -> x 55 = .int .i64 (3:Int)) /\ (L 7 = true -> x 56 = .int .i64 0) /\ (L 8 = true -> x 10 = .int .i64 (3:Int)) /\ (L 9 = true -> x 11 = .int .i64 0)) (by kernel_rfl) (by kernel_rfl) (by kernel_rfl) ?_ ((Go.RE.Each.cons ?_ (Go.RE.Each.cons ?_ (Go.RE.Each.cons ?_ (Go.RE.Each.cons ?_ (Go.RE.Each.cons ?_ (Go.RE.Each.cons ?_ (Go.RE.Each.cons ?_ (Go.RE.Each.cons ?_ (Go.RE.Each.cons ?_ (Go.RE.Each.cons ?_ Go.RE.Each.nil))))))))))) ?_
        ·exact fun x => ⟨bl_dr (Below.refl _ _),fun h => (by cases h),fun h => (by cases h),fun h => (by cases h),fun h => (by cases h),fun h => (by cases h),fun h => (by cases h),fun h => (by cases h),fun h => (by cases h),fun h => (by cases h),fun h => (by cases h)⟩
        ·intro L x a wR K hL hd hf hx hΦ hK
         obtain ⟨hI,f0,f1,f2,f3,f4,f5,f6,f7,f8,f9⟩:=hΦ
         refine ⟨fun _ => ?_,fun h => absurd h (by rw [Go.RE.wanted_none rfl]; decide)⟩
         have e3:a.tmps[3]? = some (.pointer (some ⟨B3,0,none⟩)):=hf 3 (of_decide_eq_true (by kernel_rfl))
         clear hf hx hd
         obtain ⟨mk,mz,lp,r0,r1,r2,t0,t1,t2,u0,u1,u2,b0,b1,b2,hb,h2,h3,h5,h4⟩:=(HM3.out.below hI)
         have cc:=HK.blk_cell hb
         have c0:=cc 0
         have c1:=cc 1
         have c2:=cc 2
         have c3:=cc 3
         have c4:=cc 4
         have c5:=cc 5
         have c6:=cc 6
         clear cc
         go_simp
         refine hK _ _ ?_
         exact ⟨hI,fun _ => ⟨mk,mz,lp,r0,r1,r2,t0,t1,t2,u0,u1,u2,b0,b1,b2,rfl,h2,h3,h5,h4⟩,fun h => f1 h,fun h => f2 h,fun h => f3 h,fun h => f4 h,fun h => f5 h,fun h => f6 h,fun h => f7 h,fun h => f8 h,fun h => f9 h⟩
        ·intro L x a wR K hL hd hf hx hΦ hK
         obtain ⟨hI,f0,f1,f2,f3,f4,f5,f6,f7,f8,f9⟩:=hΦ
         refine ⟨fun _ => ?_,fun h => absurd h (by rw [Go.RE.wanted_none rfl]; decide)⟩
         have e2:a.tmps[2]? = some (.pointer (some ⟨B2,0,none⟩)):=hf 2 (of_decide_eq_true (by kernel_rfl))
         clear hf hx hd
         obtain ⟨o,nm,a0,a1,a2,s0,s1,s2,hb,h2,h3,h4⟩:=(HF2.out.below hI)
         have cc:=HK.blk_cell hb
         have c0:=cc 0
         have c1:=cc 1
         have c2:=cc 2
         have c3:=cc 3
         clear cc
         go_simp
         refine hK _ _ ?_
         exact ⟨hI,fun h => f0 h,fun _ => ⟨o,nm,a0,a1,a2,s0,s1,s2,rfl,h2,h3,h4⟩,fun h => f2 h,fun h => f3 h,fun h => f4 h,fun h => f5 h,fun h => f6 h,fun h => f7 h,fun h => f8 h,fun h => f9 h⟩
        ·intro L x a wR K hL hd hf hx hΦ hK
         obtain ⟨hI,f0,f1,f2,f3,f4,f5,f6,f7,f8,f9⟩:=hΦ
         refine ⟨fun _ => ?_,fun h => absurd h (by rw [Go.RE.wanted_none rfl]; decide)⟩
         have d1:=f1 (hd 1 (by kernel_rfl))
         have e51:a.tmps[51]? = some (x 51):=hx 1 _ 51 rfl rfl (hd 1 (by kernel_rfl))
         clear hf hx hd
         obtain ⟨o,nm,a0,a1,a2,s0,s1,s2,hv,h2,h3,h4⟩:=d1
         rw [hv] at e51
         go_simp
         refine hK _ _ ?_
         exact ⟨below_tr hI (below_alloc _ _),fun h => (f0 h).below (below_alloc wR _),fun h => (f1 h).below (below_alloc wR _),fun _ => build1 h2 h3 h4,fun h => (f3 h).below (below_alloc wR _),fun h => f4 h,fun h => f5 h,fun h => f6 h,fun h => f7 h,fun h => f8 h,fun h => f9 h⟩
        ·intro L x a wR K hL hd hf hx hΦ hK
         obtain ⟨hI,f0,f1,f2,f3,f4,f5,f6,f7,f8,f9⟩:=hΦ
         refine ⟨fun _ => ?_,fun h => absurd h (by rw [Go.RE.wanted_none rfl]; decide)⟩
         have d2:=f2 (hd 2 (by kernel_rfl))
         have e52:a.tmps[52]? = some (x 52):=hx 2 _ 52 rfl rfl (hd 2 (by kernel_rfl))
         clear hf hx hd
         obtain ⟨s0,s1,s2,hv,h2⟩:=d2
         rw [hv] at e52
         have HC:Hid (Calls Tryd.prog 15 #[.int .u8 3,.slice s0 s1 s2] wR fun e w' => e = .returned (.agg #[.int .u8 3,.string ⟨#[]⟩,.slice none 0 0,.slice s0 s1 s2]) /\ IsFv w' (.agg #[.int .u8 3,.string ⟨#[]⟩,.slice none 0 0,.slice s0 s1 s2]) (.mk 3 ⟨#[]⟩ [] [.mk 3 ⟨#[]⟩ [] [AtomF (pqr 0)]]) /\ Below wR.heap.size wR w'):=hid (joinv (op:=3) (by omega) ⟨s0,s1,s2,rfl,h2⟩)
         go_simp
         go_at_call 15
         with_reducible refine HC.out.mono ?_
         rintro e w' ⟨rfl,hfv,hB8⟩
         simp only
         refine hK _ _ ?_
         exact ⟨below_tr hI hB8,fun h => (f0 h).below hB8,fun h => (f1 h).below hB8,fun h => (f2 h).below hB8,fun _ => hfv,fun h => f4 h,fun h => f5 h,fun h => f6 h,fun h => f7 h,fun h => f8 h,fun h => f9 h⟩
        ·intro L x a wR K hL hd hf hx hΦ hK
         obtain ⟨hI,f0,f1,f2,f3,f4,f5,f6,f7,f8,f9⟩:=hΦ
         refine ⟨fun _ => ?_,fun h => absurd h (by rw [Go.RE.wanted_none rfl]; decide)⟩
         have d0:=f0 (hd 0 (by kernel_rfl))
         have e50:a.tmps[50]? = some (x 50):=hx 0 _ 50 rfl rfl (hd 0 (by kernel_rfl))
         have d3:=f3 (hd 3 (by kernel_rfl))
         have e53:a.tmps[53]? = some (x 53):=hx 3 _ 53 rfl rfl (hd 3 (by kernel_rfl))
         clear hf hx hd
         have hc:=at_valv d0 d3 (HRW.out.below hI) HA4.out.1 HO1.out HA4.out.2.1 HA4.out.2.2.1 HA4.out.2.2.2
         obtain ⟨mk,mz,lp,r0,r1,r2,t0,t1,t2,u0,u1,u2,b0,b1,b2,hv,_,_,_,_⟩:=d0
         obtain ⟨o',nm',a0',a1',a2',s0',s1',s2',hv',_,_,_⟩:=d3
         rw [hv] at e50
         rw [hv'] at e53
         rw [hv,hv'] at hc
         have HC:Hid (Calls Tryd.prog 16 _ _ fun e w' => e = .returned (.tuple #[.int .i64 (3:Int),.int .i64 0]) /\ _):=hid hc
         clear hc
         go_simp
         go_at_call 16
         with_reducible refine HC.out.mono ?_
         rintro e w' ⟨rfl,hB8⟩
         simp only
         refine hK _ _ ?_
         exact ⟨below_tr hI hB8,fun h => (f0 h).below hB8,fun h => (f1 h).below hB8,fun h => (f2 h).below hB8,fun h => (f3 h).below hB8,fun _ => rfl,fun h => f5 h,fun h => f6 h,fun h => f7 h,fun h => f8 h,fun h => f9 h⟩
        ·intro L x a wR K hL hd hf hx hΦ hK
         obtain ⟨hI,f0,f1,f2,f3,f4,f5,f6,f7,f8,f9⟩:=hΦ
         refine ⟨fun _ => ?_,fun h => absurd h (by rw [Go.RE.wanted_none rfl]; decide)⟩
         have d4:=f4 (hd 4 (by kernel_rfl))
         have e54:a.tmps[54]? = some (x 54):=hx 4 _ 54 rfl rfl (hd 4 (by kernel_rfl))
         rw [d4] at e54
         clear hf hx hd
         go_simp
         refine hK _ _ ?_
         exact ⟨hI,fun h => f0 h,fun h => f1 h,fun h => f2 h,fun h => f3 h,fun h => f4 h,fun _ => rfl,fun h => f6 h,fun h => f7 h,fun h => f8 h,fun h => f9 h⟩
        ·intro L x a wR K hL hd hf hx hΦ hK
         obtain ⟨hI,f0,f1,f2,f3,f4,f5,f6,f7,f8,f9⟩:=hΦ
         refine ⟨fun _ => ?_,fun h => absurd h (by rw [Go.RE.wanted_none rfl]; decide)⟩
         have d5:=f5 (hd 5 (by kernel_rfl))
         have e49:a.tmps[49]? = some (x 49):=hx 5 _ 49 rfl rfl (hd 5 (by kernel_rfl))
         rw [d5] at e49
         clear hf hx hd
         go_simp
         refine hK _ _ ?_
         exact ⟨hI,fun h => f0 h,fun h => f1 h,fun h => f2 h,fun h => f3 h,fun h => f4 h,fun h => f5 h,fun _ => rfl,fun h => f7 h,fun h => f8 h,fun h => f9 h⟩
        ·intro L x a wR K hL hd hf hx hΦ hK
         obtain ⟨hI,f0,f1,f2,f3,f4,f5,f6,f7,f8,f9⟩:=hΦ
         refine ⟨fun _ => ?_,fun h => absurd h (by rw [Go.RE.wanted_none rfl]; decide)⟩
         have d5:=f5 (hd 5 (by kernel_rfl))
         have e49:a.tmps[49]? = some (x 49):=hx 5 _ 49 rfl rfl (hd 5 (by kernel_rfl))
         rw [d5] at e49
         clear hf hx hd
         go_simp
         refine hK _ _ ?_
         exact ⟨hI,fun h => f0 h,fun h => f1 h,fun h => f2 h,fun h => f3 h,fun h => f4 h,fun h => f5 h,fun h => f6 h,fun _ => rfl,fun h => f8 h,fun h => f9 h⟩
        ·intro L x a wR K hL hd hf hx hΦ hK
         obtain ⟨hI,f0,f1,f2,f3,f4,f5,f6,f7,f8,f9⟩:=hΦ
         refine ⟨fun _ => ?_,fun h => absurd h (by rw [Go.RE.wanted_none rfl]; decide)⟩
         have d6:=f6 (hd 6 (by kernel_rfl))
         have e55:a.tmps[55]? = some (x 55):=hx 6 _ 55 rfl rfl (hd 6 (by kernel_rfl))
         rw [d6] at e55
         clear hf hx hd
         go_simp
         refine hK _ _ ?_
         exact ⟨hI,fun h => f0 h,fun h => f1 h,fun h => f2 h,fun h => f3 h,fun h => f4 h,fun h => f5 h,fun h => f6 h,fun h => f7 h,fun _ => rfl,fun h => f9 h⟩
        ·intro L x a wR K hL hd hf hx hΦ hK
         obtain ⟨hI,f0,f1,f2,f3,f4,f5,f6,f7,f8,f9⟩:=hΦ
         refine ⟨fun _ => ?_,fun h => absurd h (by rw [Go.RE.wanted_none rfl]; decide)⟩
         have d7:=f7 (hd 7 (by kernel_rfl))
         have e56:a.tmps[56]? = some (x 56):=hx 7 _ 56 rfl rfl (hd 7 (by kernel_rfl))
         rw [d7] at e56
         clear hf hx hd
         go_simp
         refine hK _ _ ?_
         exact ⟨hI,fun h => f0 h,fun h => f1 h,fun h => f2 h,fun h => f3 h,fun h => f4 h,fun h => f5 h,fun h => f6 h,fun h => f7 h,fun h => f8 h,fun _ => rfl⟩
        ·rintro x W ⟨hI,f0,f1,f2,f3,f4,f5,f6,f7,f8,f9⟩
         simp only [Exit.then]
         go_step
         go_meet
         exact ⟨f8 rfl,f9 rfl,hI⟩
       case rest =>
        obtain ⟨rfl,rfl,hB⟩:=hcut
        replace HF1:=hid (HF1.out.below hB)
        replace HF2:=hid (HF2.out.below hB)
        replace HM3:=hid (HM3.out.below hB)
        replace HRW:=hid (HRW.out.below hB)
        replace HBL:=hid (below_tr HBL.out hB)
        obtain ⟨q7,hq7⟩:∃ q:World,q = wc:=⟨_,rfl⟩
        subst hq7
        clear hB
        go_upto_region 10 with (fail)
        go_cut [12] from 81 to 84 (fun v12 wx => ∃ B,v12 = .pointer (some ⟨B,0,none⟩) /\ MB wx B awM2 /\ Below q7.heap.size q7 wx)
        case first =>
         have hg1:(q7.alloc (.cells #[.int .i64 2,.int .i64 1] 3)).heap[q7.heap.size]? = some (.cells #[.int .i64 2,.int .i64 1] 3 (0,0)):=HK.blk_new _ _
         have hown1:(q7.alloc (.cells #[.int .i64 2,.int .i64 1] 3)).ownsRow q7.heap.size 3 1 (.slice (some ⟨q7.heap.size,0,none⟩) 2 2) 2 (ints [2,1]):=⟨rfl,.inr ⟨_,2,_,rfl,Nat.le_refl _,hg1,Nat.le_refl _,by unfold maxLen; omega,rfl,rfl⟩⟩
         have hg2:((q7.alloc (.cells #[.int .i64 2,.int .i64 1] 3)).alloc (.cells #[.int .i64 2] 3)).heap[q7.heap.size + 1]? = some (.cells #[.int .i64 2] 3 (0,0)):=by have:=HK.blk_new (q7.alloc (.cells #[.int .i64 2,.int .i64 1] 3)) (.cells #[.int .i64 2] 3); rwa [World.size_alloc] at this
         have hR2:IsR ((q7.alloc (.cells #[.int .i64 2,.int .i64 1] 3)).alloc (.cells #[.int .i64 2] 3)) (q7.heap.size + 1) 0 [2]:=fun i x hx => by
          rw [Nat.zero_add,HK.blk_cell hg2]
          cases i with
          | zero => simp at hx; subst hx; rfl
          | succ i => simp at hx
         have HC:=hid (facts_call ((q7.alloc (.cells #[.int .i64 2,.int .i64 1] 3)).alloc (.cells #[.int .i64 2] 3)) (q7.heap.size + 1) 0 1 1 [2] hR2 rfl (by omega))
         have HO1:=hid (hown1.alloc (.cells #[.int .i64 2] 3))
         have HBB:Hid (Below q7.heap.size q7 ((q7.alloc (.cells #[.int .i64 2,.int .i64 1] 3)).alloc (.cells #[.int .i64 2] 3))):=hid (below_tr (below_alloc _ _) (below_alloc _ _))
         unfold RetFa at HC
         clear hg1 hown1 hg2 hR2
         go_wp2_with (go_at_call 38; ((with_reducible refine HC.out.mono ?_); rintro e w' ⟨v,rfl,hB,hown⟩; obtain ⟨fg,fc,rfl,_,_⟩:=own_form9 hown (by decide)))
         go_meet
         have hmv:=mv_own (kind:=4) (by omega) (own_below9 HO1.out hB) (b2:=_) (l:=[2]) hown (rel:=[2,1]) rfl (by simp) 2
         exact ⟨_,rfl,box_m hmv,below_tr (below_tr HBB.out hB) (below_alloc _ _)⟩
        case rest =>
         obtain ⟨B12,rfl,hnew,hB⟩:=hcut
         replace HF1:=hid (HF1.out.below hB)
         replace HF2:=hid (HF2.out.below hB)
         replace HM3:=hid (HM3.out.below hB)
         have HM12:=hid hnew
         replace HRW:=hid (HRW.out.below hB)
         replace HBL:=hid (below_tr HBL.out hB)
         obtain ⟨q8,hq8⟩:∃ q:World,q = wc:=⟨_,rfl⟩
         subst hq8
         clear hnew hB
         go_upto_region 11 with (fail)
         go_cut [4,5] from 85 to 92 (fun v4 v5 wx => v4 = .int .i64 (1:Int) /\ v5 = .int .i64 0 /\ Below q8.heap.size q8 wx)
         case first =>
          refine Go.RE.wp_region_eachg [86,87,88,89,90,85,91,92,4,5] (fun L x W => (Below q8.heap.size q8 W) /\ (L 0 = true -> IsMv W (x 86) (awM2)) /\ (L 1 = true -> IsFv W (x 87) (AtomF (pqr 0))) /\ (L 2 = true -> IsFsV W (x 88) [AtomF (pqr 0)]) /\ (L 3 = true -> IsFv W (x 89) (.mk 10 ⟨#[]⟩ [] [AtomF (pqr 0)])) /\ (L 4 = true -> x 90 = .tuple #[.int .i64 (1:Int),.int .i64 0]) /\ (L 5 = true -> x 85 = .tuple #[.int .i64 (1:Int),.int .i64 0]) /\ (L 6 = true -> x 91 = .int .i64 (1:Int)) /\ (L 7 = true -> x 92 = .int .i64 0) /\ (L 8 = true -> x 4 = .int .i64 (1:Int)) /\ (L 9 = true -> x 5 = .int .i64 0)) (by kernel_rfl) (by kernel_rfl) (by kernel_rfl) ?_ ((Go.RE.Each.cons ?_ (Go.RE.Each.cons ?_ (Go.RE.Each.cons ?_ (Go.RE.Each.cons ?_ (Go.RE.Each.cons ?_ (Go.RE.Each.cons ?_ (Go.RE.Each.cons ?_ (Go.RE.Each.cons ?_ (Go.RE.Each.cons ?_ (Go.RE.Each.cons ?_ Go.RE.Each.nil))))))))))) ?_
          ·exact fun x => ⟨bl_dr (Below.refl _ _),fun h => (by cases h),fun h => (by cases h),fun h => (by cases h),fun h => (by cases h),fun h => (by cases h),fun h => (by cases h),fun h => (by cases h),fun h => (by cases h),fun h => (by cases h),fun h => (by cases h)⟩
          ·intro L x a wR K hL hd hf hx hΦ hK
           obtain ⟨hI,f0,f1,f2,f3,f4,f5,f6,f7,f8,f9⟩:=hΦ
           refine ⟨fun _ => ?_,fun h => absurd h (by rw [Go.RE.wanted_none rfl]; decide)⟩
           have e12:a.tmps[12]? = some (.pointer (some ⟨B12,0,none⟩)):=hf 12 (of_decide_eq_true (by kernel_rfl))
           clear hf hx hd
           obtain ⟨mk,mz,lp,r0,r1,r2,t0,t1,t2,u0,u1,u2,b0,b1,b2,hb,h2,h3,h5,h4⟩:=(HM12.out.below hI)
           have cc:=HK.blk_cell hb
           have c0:=cc 0
           have c1:=cc 1
           have c2:=cc 2
           have c3:=cc 3
           have c4:=cc 4
           have c5:=cc 5
           have c6:=cc 6
           clear cc
           go_simp
           refine hK _ _ ?_
           exact ⟨hI,fun _ => ⟨mk,mz,lp,r0,r1,r2,t0,t1,t2,u0,u1,u2,b0,b1,b2,rfl,h2,h3,h5,h4⟩,fun h => f1 h,fun h => f2 h,fun h => f3 h,fun h => f4 h,fun h => f5 h,fun h => f6 h,fun h => f7 h,fun h => f8 h,fun h => f9 h⟩
          ·intro L x a wR K hL hd hf hx hΦ hK
           obtain ⟨hI,f0,f1,f2,f3,f4,f5,f6,f7,f8,f9⟩:=hΦ
           refine ⟨fun _ => ?_,fun h => absurd h (by rw [Go.RE.wanted_none rfl]; decide)⟩
           have e1:a.tmps[1]? = some (.pointer (some ⟨B1,0,none⟩)):=hf 1 (of_decide_eq_true (by kernel_rfl))
           clear hf hx hd
           obtain ⟨o,nm,a0,a1,a2,s0,s1,s2,hb,h2,h3,h4⟩:=(HF1.out.below hI)
           have cc:=HK.blk_cell hb
           have c0:=cc 0
           have c1:=cc 1
           have c2:=cc 2
           have c3:=cc 3
           clear cc
           go_simp
           refine hK _ _ ?_
           exact ⟨hI,fun h => f0 h,fun _ => ⟨o,nm,a0,a1,a2,s0,s1,s2,rfl,h2,h3,h4⟩,fun h => f2 h,fun h => f3 h,fun h => f4 h,fun h => f5 h,fun h => f6 h,fun h => f7 h,fun h => f8 h,fun h => f9 h⟩
          ·intro L x a wR K hL hd hf hx hΦ hK
           obtain ⟨hI,f0,f1,f2,f3,f4,f5,f6,f7,f8,f9⟩:=hΦ
           refine ⟨fun _ => ?_,fun h => absurd h (by rw [Go.RE.wanted_none rfl]; decide)⟩
           have d1:=f1 (hd 1 (by kernel_rfl))
           have e87:a.tmps[87]? = some (x 87):=hx 1 _ 87 rfl rfl (hd 1 (by kernel_rfl))
           clear hf hx hd
           obtain ⟨o,nm,a0,a1,a2,s0,s1,s2,hv,h2,h3,h4⟩:=d1
           rw [hv] at e87
           go_simp
           refine hK _ _ ?_
           exact ⟨below_tr hI (below_alloc _ _),fun h => (f0 h).below (below_alloc wR _),fun h => (f1 h).below (below_alloc wR _),fun _ => build1 h2 h3 h4,fun h => (f3 h).below (below_alloc wR _),fun h => f4 h,fun h => f5 h,fun h => f6 h,fun h => f7 h,fun h => f8 h,fun h => f9 h⟩
          ·intro L x a wR K hL hd hf hx hΦ hK
           obtain ⟨hI,f0,f1,f2,f3,f4,f5,f6,f7,f8,f9⟩:=hΦ
           refine ⟨fun _ => ?_,fun h => absurd h (by rw [Go.RE.wanted_none rfl]; decide)⟩
           have d2:=f2 (hd 2 (by kernel_rfl))
           have e88:a.tmps[88]? = some (x 88):=hx 2 _ 88 rfl rfl (hd 2 (by kernel_rfl))
           clear hf hx hd
           obtain ⟨s0,s1,s2,hv,h2⟩:=d2
           rw [hv] at e88
           have HC:Hid (Calls Tryd.prog 15 #[.int .u8 10,.slice s0 s1 s2] wR fun e w' => e = .returned (.agg #[.int .u8 10,.string ⟨#[]⟩,.slice none 0 0,.slice s0 s1 s2]) /\ IsFv w' (.agg #[.int .u8 10,.string ⟨#[]⟩,.slice none 0 0,.slice s0 s1 s2]) (.mk 10 ⟨#[]⟩ [] [AtomF (pqr 0)]) /\ Below wR.heap.size wR w'):=hid (joinv (op:=10) (by omega) ⟨s0,s1,s2,rfl,h2⟩)
           go_simp
           go_at_call 15
           with_reducible refine HC.out.mono ?_
           rintro e w' ⟨rfl,hfv,hB8⟩
           simp only
           refine hK _ _ ?_
           exact ⟨below_tr hI hB8,fun h => (f0 h).below hB8,fun h => (f1 h).below hB8,fun h => (f2 h).below hB8,fun _ => hfv,fun h => f4 h,fun h => f5 h,fun h => f6 h,fun h => f7 h,fun h => f8 h,fun h => f9 h⟩
          ·intro L x a wR K hL hd hf hx hΦ hK
           obtain ⟨hI,f0,f1,f2,f3,f4,f5,f6,f7,f8,f9⟩:=hΦ
           refine ⟨fun _ => ?_,fun h => absurd h (by rw [Go.RE.wanted_none rfl]; decide)⟩
           have d0:=f0 (hd 0 (by kernel_rfl))
           have e86:a.tmps[86]? = some (x 86):=hx 0 _ 86 rfl rfl (hd 0 (by kernel_rfl))
           have d3:=f3 (hd 3 (by kernel_rfl))
           have e89:a.tmps[89]? = some (x 89):=hx 3 _ 89 rfl rfl (hd 3 (by kernel_rfl))
           clear hf hx hd
           have hc:=at_valv d0 d3 (HRW.out.below hI) HA5.out.1 HO2.out HA5.out.2.1 HA5.out.2.2.1 HA5.out.2.2.2
           obtain ⟨mk,mz,lp,r0,r1,r2,t0,t1,t2,u0,u1,u2,b0,b1,b2,hv,_,_,_,_⟩:=d0
           obtain ⟨o',nm',a0',a1',a2',s0',s1',s2',hv',_,_,_⟩:=d3
           rw [hv] at e86
           rw [hv'] at e89
           rw [hv,hv'] at hc
           have HC:Hid (Calls Tryd.prog 16 _ _ fun e w' => e = .returned (.tuple #[.int .i64 (1:Int),.int .i64 0]) /\ _):=hid hc
           clear hc
           go_simp
           go_at_call 16
           with_reducible refine HC.out.mono ?_
           rintro e w' ⟨rfl,hB8⟩
           simp only
           refine hK _ _ ?_
           exact ⟨below_tr hI hB8,fun h => (f0 h).below hB8,fun h => (f1 h).below hB8,fun h => (f2 h).below hB8,fun h => (f3 h).below hB8,fun _ => rfl,fun h => f5 h,fun h => f6 h,fun h => f7 h,fun h => f8 h,fun h => f9 h⟩
          ·intro L x a wR K hL hd hf hx hΦ hK
           obtain ⟨hI,f0,f1,f2,f3,f4,f5,f6,f7,f8,f9⟩:=hΦ
           refine ⟨fun _ => ?_,fun h => absurd h (by rw [Go.RE.wanted_none rfl]; decide)⟩
           have d4:=f4 (hd 4 (by kernel_rfl))
           have e90:a.tmps[90]? = some (x 90):=hx 4 _ 90 rfl rfl (hd 4 (by kernel_rfl))
           rw [d4] at e90
           clear hf hx hd
           go_simp
           refine hK _ _ ?_
           exact ⟨hI,fun h => f0 h,fun h => f1 h,fun h => f2 h,fun h => f3 h,fun h => f4 h,fun _ => rfl,fun h => f6 h,fun h => f7 h,fun h => f8 h,fun h => f9 h⟩
          ·intro L x a wR K hL hd hf hx hΦ hK
           obtain ⟨hI,f0,f1,f2,f3,f4,f5,f6,f7,f8,f9⟩:=hΦ
           refine ⟨fun _ => ?_,fun h => absurd h (by rw [Go.RE.wanted_none rfl]; decide)⟩
           have d5:=f5 (hd 5 (by kernel_rfl))
           have e85:a.tmps[85]? = some (x 85):=hx 5 _ 85 rfl rfl (hd 5 (by kernel_rfl))
           rw [d5] at e85
           clear hf hx hd
           go_simp
           refine hK _ _ ?_
           exact ⟨hI,fun h => f0 h,fun h => f1 h,fun h => f2 h,fun h => f3 h,fun h => f4 h,fun h => f5 h,fun _ => rfl,fun h => f7 h,fun h => f8 h,fun h => f9 h⟩
          ·intro L x a wR K hL hd hf hx hΦ hK
           obtain ⟨hI,f0,f1,f2,f3,f4,f5,f6,f7,f8,f9⟩:=hΦ
           refine ⟨fun _ => ?_,fun h => absurd h (by rw [Go.RE.wanted_none rfl]; decide)⟩
           have d5:=f5 (hd 5 (by kernel_rfl))
           have e85:a.tmps[85]? = some (x 85):=hx 5 _ 85 rfl rfl (hd 5 (by kernel_rfl))
           rw [d5] at e85
           clear hf hx hd
           go_simp
           refine hK _ _ ?_
           exact ⟨hI,fun h => f0 h,fun h => f1 h,fun h => f2 h,fun h => f3 h,fun h => f4 h,fun h => f5 h,fun h => f6 h,fun _ => rfl,fun h => f8 h,fun h => f9 h⟩
          ·intro L x a wR K hL hd hf hx hΦ hK
           obtain ⟨hI,f0,f1,f2,f3,f4,f5,f6,f7,f8,f9⟩:=hΦ
           refine ⟨fun _ => ?_,fun h => absurd h (by rw [Go.RE.wanted_none rfl]; decide)⟩
           have d6:=f6 (hd 6 (by kernel_rfl))
           have e91:a.tmps[91]? = some (x 91):=hx 6 _ 91 rfl rfl (hd 6 (by kernel_rfl))
           rw [d6] at e91
           clear hf hx hd
           go_simp
           refine hK _ _ ?_
           exact ⟨hI,fun h => f0 h,fun h => f1 h,fun h => f2 h,fun h => f3 h,fun h => f4 h,fun h => f5 h,fun h => f6 h,fun h => f7 h,fun _ => rfl,fun h => f9 h⟩
          ·intro L x a wR K hL hd hf hx hΦ hK
           obtain ⟨hI,f0,f1,f2,f3,f4,f5,f6,f7,f8,f9⟩:=hΦ
           refine ⟨fun _ => ?_,fun h => absurd h (by rw [Go.RE.wanted_none rfl]; decide)⟩
           have d7:=f7 (hd 7 (by kernel_rfl))
           have e92:a.tmps[92]? = some (x 92):=hx 7 _ 92 rfl rfl (hd 7 (by kernel_rfl))
           rw [d7] at e92
           clear hf hx hd
           go_simp
           refine hK _ _ ?_
           exact ⟨hI,fun h => f0 h,fun h => f1 h,fun h => f2 h,fun h => f3 h,fun h => f4 h,fun h => f5 h,fun h => f6 h,fun h => f7 h,fun h => f8 h,fun _ => rfl⟩
          ·rintro x W ⟨hI,f0,f1,f2,f3,f4,f5,f6,f7,f8,f9⟩
           simp only [Exit.then]
           go_step
           go_meet
           exact ⟨f8 rfl,f9 rfl,hI⟩
         case rest =>
          obtain ⟨rfl,rfl,hB⟩:=hcut
          replace HF1:=hid (HF1.out.below hB)
          replace HF2:=hid (HF2.out.below hB)
          replace HM3:=hid (HM3.out.below hB)
          replace HM12:=hid (HM12.out.below hB)
          replace HRW:=hid (HRW.out.below hB)
          replace HBL:=hid (below_tr HBL.out hB)
          obtain ⟨q9,hq9⟩:∃ q:World,q = wc:=⟨_,rfl⟩
          subst hq9
          clear hB
          go_upto_region 12 with (fail)
          go_cut [6,7] from 93 to 102 (fun v6 v7 wx => v6 = .int .i64 (2:Int) /\ v7 = .int .i64 0 /\ Below q9.heap.size q9 wx)
          case first =>
           refine Go.RE.wp_region_eachg [94,95,96,97,98,99,100,93,101,102,6,7] (fun L x W => (Below q9.heap.size q9 W) /\ (L 0 = true -> IsMv W (x 94) (awM2)) /\ (L 1 = true -> IsFv W (x 95) (AtomF (pqr 0))) /\ (L 2 = true -> IsFsV W (x 96) [AtomF (pqr 0)]) /\ (L 3 = true -> IsFv W (x 97) (.mk 11 ⟨#[]⟩ [] [AtomF (pqr 0)])) /\ (L 4 = true -> IsFsV W (x 98) [.mk 11 ⟨#[]⟩ [] [AtomF (pqr 0)]]) /\ (L 5 = true -> IsFv W (x 99) (.mk 11 ⟨#[]⟩ [] [.mk 11 ⟨#[]⟩ [] [AtomF (pqr 0)]])) /\ (L 6 = true -> x 100 = .tuple #[.int .i64 (2:Int),.int .i64 0]) /\ (L 7 = true -> x 93 = .tuple #[.int .i64 (2:Int),.int .i64 0]) /\ (L 8 = true -> x 101 = .int .i64 (2:Int)) /\ (L 9 = true -> x 102 = .int .i64 0) /\ (L 10 = true -> x 6 = .int .i64 (2:Int)) /\ (L 11 = true -> x 7 = .int .i64 0)) (by kernel_rfl) (by kernel_rfl) (by kernel_rfl) ?_ ((Go.RE.Each.cons ?_ (Go.RE.Each.cons ?_ (Go.RE.Each.cons ?_ (Go.RE.Each.cons ?_ (Go.RE.Each.cons ?_ (Go.RE.Each.cons ?_ (Go.RE.Each.cons ?_ (Go.RE.Each.cons ?_ (Go.RE.Each.cons ?_ (Go.RE.Each.cons ?_ (Go.RE.Each.cons ?_ (Go.RE.Each.cons ?_ Go.RE.Each.nil))))))))))))) ?_
           ·exact fun x => ⟨bl_dr (Below.refl _ _),fun h => (by cases h),fun h => (by cases h),fun h => (by cases h),fun h => (by cases h),fun h => (by cases h),fun h => (by cases h),fun h => (by cases h),fun h => (by cases h),fun h => (by cases h),fun h => (by cases h),fun h => (by cases h),fun h => (by cases h)⟩
           ·intro L x a wR K hL hd hf hx hΦ hK
            obtain ⟨hI,f0,f1,f2,f3,f4,f5,f6,f7,f8,f9,f10,f11⟩:=hΦ
            refine ⟨fun _ => ?_,fun h => absurd h (by rw [Go.RE.wanted_none rfl]; decide)⟩
            have e12:a.tmps[12]? = some (.pointer (some ⟨B12,0,none⟩)):=hf 12 (of_decide_eq_true (by kernel_rfl))
            clear hf hx hd
            obtain ⟨mk,mz,lp,r0,r1,r2,t0,t1,t2,u0,u1,u2,b0,b1,b2,hb,h2,h3,h5,h4⟩:=(HM12.out.below hI)
            have cc:=HK.blk_cell hb
            have c0:=cc 0
            have c1:=cc 1
            have c2:=cc 2
            have c3:=cc 3
            have c4:=cc 4
            have c5:=cc 5
            have c6:=cc 6
            clear cc
            go_simp
            refine hK _ _ ?_
            exact ⟨hI,fun _ => ⟨mk,mz,lp,r0,r1,r2,t0,t1,t2,u0,u1,u2,b0,b1,b2,rfl,h2,h3,h5,h4⟩,fun h => f1 h,fun h => f2 h,fun h => f3 h,fun h => f4 h,fun h => f5 h,fun h => f6 h,fun h => f7 h,fun h => f8 h,fun h => f9 h,fun h => f10 h,fun h => f11 h⟩
           ·intro L x a wR K hL hd hf hx hΦ hK
            obtain ⟨hI,f0,f1,f2,f3,f4,f5,f6,f7,f8,f9,f10,f11⟩:=hΦ
            refine ⟨fun _ => ?_,fun h => absurd h (by rw [Go.RE.wanted_none rfl]; decide)⟩
            have e1:a.tmps[1]? = some (.pointer (some ⟨B1,0,none⟩)):=hf 1 (of_decide_eq_true (by kernel_rfl))
            clear hf hx hd
            obtain ⟨o,nm,a0,a1,a2,s0,s1,s2,hb,h2,h3,h4⟩:=(HF1.out.below hI)
            have cc:=HK.blk_cell hb
            have c0:=cc 0
            have c1:=cc 1
            have c2:=cc 2
            have c3:=cc 3
            clear cc
            go_simp
            refine hK _ _ ?_
            exact ⟨hI,fun h => f0 h,fun _ => ⟨o,nm,a0,a1,a2,s0,s1,s2,rfl,h2,h3,h4⟩,fun h => f2 h,fun h => f3 h,fun h => f4 h,fun h => f5 h,fun h => f6 h,fun h => f7 h,fun h => f8 h,fun h => f9 h,fun h => f10 h,fun h => f11 h⟩
           ·intro L x a wR K hL hd hf hx hΦ hK
            obtain ⟨hI,f0,f1,f2,f3,f4,f5,f6,f7,f8,f9,f10,f11⟩:=hΦ
            refine ⟨fun _ => ?_,fun h => absurd h (by rw [Go.RE.wanted_none rfl]; decide)⟩
            have d1:=f1 (hd 1 (by kernel_rfl))
            have e95:a.tmps[95]? = some (x 95):=hx 1 _ 95 rfl rfl (hd 1 (by kernel_rfl))
            clear hf hx hd
            obtain ⟨o,nm,a0,a1,a2,s0,s1,s2,hv,h2,h3,h4⟩:=d1
            rw [hv] at e95
            go_simp
            refine hK _ _ ?_
            exact ⟨below_tr hI (below_alloc _ _),fun h => (f0 h).below (below_alloc wR _),fun h => (f1 h).below (below_alloc wR _),fun _ => build1 h2 h3 h4,fun h => (f3 h).below (below_alloc wR _),fun h => (f4 h).below (below_alloc wR _),fun h => (f5 h).below (below_alloc wR _),fun h => f6 h,fun h => f7 h,fun h => f8 h,fun h => f9 h,fun h => f10 h,fun h => f11 h⟩
           ·intro L x a wR K hL hd hf hx hΦ hK
            obtain ⟨hI,f0,f1,f2,f3,f4,f5,f6,f7,f8,f9,f10,f11⟩:=hΦ
            refine ⟨fun _ => ?_,fun h => absurd h (by rw [Go.RE.wanted_none rfl]; decide)⟩
            have d2:=f2 (hd 2 (by kernel_rfl))
            have e96:a.tmps[96]? = some (x 96):=hx 2 _ 96 rfl rfl (hd 2 (by kernel_rfl))
            clear hf hx hd
            obtain ⟨s0,s1,s2,hv,h2⟩:=d2
            rw [hv] at e96
            have HC:Hid (Calls Tryd.prog 15 #[.int .u8 11,.slice s0 s1 s2] wR fun e w' => e = .returned (.agg #[.int .u8 11,.string ⟨#[]⟩,.slice none 0 0,.slice s0 s1 s2]) /\ IsFv w' (.agg #[.int .u8 11,.string ⟨#[]⟩,.slice none 0 0,.slice s0 s1 s2]) (.mk 11 ⟨#[]⟩ [] [AtomF (pqr 0)]) /\ Below wR.heap.size wR w'):=hid (joinv (op:=11) (by omega) ⟨s0,s1,s2,rfl,h2⟩)
            go_simp
            go_at_call 15
            with_reducible refine HC.out.mono ?_
            rintro e w' ⟨rfl,hfv,hB8⟩
            simp only
            refine hK _ _ ?_
            exact ⟨below_tr hI hB8,fun h => (f0 h).below hB8,fun h => (f1 h).below hB8,fun h => (f2 h).below hB8,fun _ => hfv,fun h => (f4 h).below hB8,fun h => (f5 h).below hB8,fun h => f6 h,fun h => f7 h,fun h => f8 h,fun h => f9 h,fun h => f10 h,fun h => f11 h⟩
           ·intro L x a wR K hL hd hf hx hΦ hK
            obtain ⟨hI,f0,f1,f2,f3,f4,f5,f6,f7,f8,f9,f10,f11⟩:=hΦ
            refine ⟨fun _ => ?_,fun h => absurd h (by rw [Go.RE.wanted_none rfl]; decide)⟩
            have d3:=f3 (hd 3 (by kernel_rfl))
            have e97:a.tmps[97]? = some (x 97):=hx 3 _ 97 rfl rfl (hd 3 (by kernel_rfl))
            clear hf hx hd
            obtain ⟨o,nm,a0,a1,a2,s0,s1,s2,hv,h2,h3,h4⟩:=d3
            rw [hv] at e97
            go_simp
            refine hK _ _ ?_
            exact ⟨below_tr hI (below_alloc _ _),fun h => (f0 h).below (below_alloc wR _),fun h => (f1 h).below (below_alloc wR _),fun h => (f2 h).below (below_alloc wR _),fun h => (f3 h).below (below_alloc wR _),fun _ => build1 h2 h3 h4,fun h => (f5 h).below (below_alloc wR _),fun h => f6 h,fun h => f7 h,fun h => f8 h,fun h => f9 h,fun h => f10 h,fun h => f11 h⟩
           ·intro L x a wR K hL hd hf hx hΦ hK
            obtain ⟨hI,f0,f1,f2,f3,f4,f5,f6,f7,f8,f9,f10,f11⟩:=hΦ
            refine ⟨fun _ => ?_,fun h => absurd h (by rw [Go.RE.wanted_none rfl]; decide)⟩
            have d4:=f4 (hd 4 (by kernel_rfl))
            have e98:a.tmps[98]? = some (x 98):=hx 4 _ 98 rfl rfl (hd 4 (by kernel_rfl))
            clear hf hx hd
            obtain ⟨s0,s1,s2,hv,h2⟩:=d4
            rw [hv] at e98
            have HC:Hid (Calls Tryd.prog 15 #[.int .u8 11,.slice s0 s1 s2] wR fun e w' => e = .returned (.agg #[.int .u8 11,.string ⟨#[]⟩,.slice none 0 0,.slice s0 s1 s2]) /\ IsFv w' (.agg #[.int .u8 11,.string ⟨#[]⟩,.slice none 0 0,.slice s0 s1 s2]) (.mk 11 ⟨#[]⟩ [] [.mk 11 ⟨#[]⟩ [] [AtomF (pqr 0)]]) /\ Below wR.heap.size wR w'):=hid (joinv (op:=11) (by omega) ⟨s0,s1,s2,rfl,h2⟩)
            go_simp
            go_at_call 15
            with_reducible refine HC.out.mono ?_
            rintro e w' ⟨rfl,hfv,hB8⟩
            simp only
            refine hK _ _ ?_
            exact ⟨below_tr hI hB8,fun h => (f0 h).below hB8,fun h => (f1 h).below hB8,fun h => (f2 h).below hB8,fun h => (f3 h).below hB8,fun h => (f4 h).below hB8,fun _ => hfv,fun h => f6 h,fun h => f7 h,fun h => f8 h,fun h => f9 h,fun h => f10 h,fun h => f11 h⟩
           ·intro L x a wR K hL hd hf hx hΦ hK
            obtain ⟨hI,f0,f1,f2,f3,f4,f5,f6,f7,f8,f9,f10,f11⟩:=hΦ
            refine ⟨fun _ => ?_,fun h => absurd h (by rw [Go.RE.wanted_none rfl]; decide)⟩
            have d0:=f0 (hd 0 (by kernel_rfl))
            have e94:a.tmps[94]? = some (x 94):=hx 0 _ 94 rfl rfl (hd 0 (by kernel_rfl))
            have d5:=f5 (hd 5 (by kernel_rfl))
            have e99:a.tmps[99]? = some (x 99):=hx 5 _ 99 rfl rfl (hd 5 (by kernel_rfl))
            clear hf hx hd
            have hc:=at_valv d0 d5 (HRW.out.below hI) HA6.out.1 HO2.out HA6.out.2.1 HA6.out.2.2.1 HA6.out.2.2.2
            obtain ⟨mk,mz,lp,r0,r1,r2,t0,t1,t2,u0,u1,u2,b0,b1,b2,hv,_,_,_,_⟩:=d0
            obtain ⟨o',nm',a0',a1',a2',s0',s1',s2',hv',_,_,_⟩:=d5
            rw [hv] at e94
            rw [hv'] at e99
            rw [hv,hv'] at hc
            have HC:Hid (Calls Tryd.prog 16 _ _ fun e w' => e = .returned (.tuple #[.int .i64 (2:Int),.int .i64 0]) /\ _):=hid hc
            clear hc
            go_simp
            go_at_call 16
            with_reducible refine HC.out.mono ?_
            rintro e w' ⟨rfl,hB8⟩
            simp only
            refine hK _ _ ?_
            exact ⟨below_tr hI hB8,fun h => (f0 h).below hB8,fun h => (f1 h).below hB8,fun h => (f2 h).below hB8,fun h => (f3 h).below hB8,fun h => (f4 h).below hB8,fun h => (f5 h).below hB8,fun _ => rfl,fun h => f7 h,fun h => f8 h,fun h => f9 h,fun h => f10 h,fun h => f11 h⟩
           ·intro L x a wR K hL hd hf hx hΦ hK
            obtain ⟨hI,f0,f1,f2,f3,f4,f5,f6,f7,f8,f9,f10,f11⟩:=hΦ
            refine ⟨fun _ => ?_,fun h => absurd h (by rw [Go.RE.wanted_none rfl]; decide)⟩
            have d6:=f6 (hd 6 (by kernel_rfl))
            have e100:a.tmps[100]? = some (x 100):=hx 6 _ 100 rfl rfl (hd 6 (by kernel_rfl))
            rw [d6] at e100
            clear hf hx hd
            go_simp
            refine hK _ _ ?_
            exact ⟨hI,fun h => f0 h,fun h => f1 h,fun h => f2 h,fun h => f3 h,fun h => f4 h,fun h => f5 h,fun h => f6 h,fun _ => rfl,fun h => f8 h,fun h => f9 h,fun h => f10 h,fun h => f11 h⟩
           ·intro L x a wR K hL hd hf hx hΦ hK
            obtain ⟨hI,f0,f1,f2,f3,f4,f5,f6,f7,f8,f9,f10,f11⟩:=hΦ
            refine ⟨fun _ => ?_,fun h => absurd h (by rw [Go.RE.wanted_none rfl]; decide)⟩
            have d7:=f7 (hd 7 (by kernel_rfl))
            have e93:a.tmps[93]? = some (x 93):=hx 7 _ 93 rfl rfl (hd 7 (by kernel_rfl))
            rw [d7] at e93
            clear hf hx hd
            go_simp
            refine hK _ _ ?_
            exact ⟨hI,fun h => f0 h,fun h => f1 h,fun h => f2 h,fun h => f3 h,fun h => f4 h,fun h => f5 h,fun h => f6 h,fun h => f7 h,fun _ => rfl,fun h => f9 h,fun h => f10 h,fun h => f11 h⟩
           ·intro L x a wR K hL hd hf hx hΦ hK
            obtain ⟨hI,f0,f1,f2,f3,f4,f5,f6,f7,f8,f9,f10,f11⟩:=hΦ
            refine ⟨fun _ => ?_,fun h => absurd h (by rw [Go.RE.wanted_none rfl]; decide)⟩
            have d7:=f7 (hd 7 (by kernel_rfl))
            have e93:a.tmps[93]? = some (x 93):=hx 7 _ 93 rfl rfl (hd 7 (by kernel_rfl))
            rw [d7] at e93
            clear hf hx hd
            go_simp
            refine hK _ _ ?_
            exact ⟨hI,fun h => f0 h,fun h => f1 h,fun h => f2 h,fun h => f3 h,fun h => f4 h,fun h => f5 h,fun h => f6 h,fun h => f7 h,fun h => f8 h,fun _ => rfl,fun h => f10 h,fun h => f11 h⟩
           ·intro L x a wR K hL hd hf hx hΦ hK
            obtain ⟨hI,f0,f1,f2,f3,f4,f5,f6,f7,f8,f9,f10,f11⟩:=hΦ
            refine ⟨fun _ => ?_,fun h => absurd h (by rw [Go.RE.wanted_none rfl]; decide)⟩
            have d8:=f8 (hd 8 (by kernel_rfl))
            have e101:a.tmps[101]? = some (x 101):=hx 8 _ 101 rfl rfl (hd 8 (by kernel_rfl))
            rw [d8] at e101
            clear hf hx hd
            go_simp
            refine hK _ _ ?_
            exact ⟨hI,fun h => f0 h,fun h => f1 h,fun h => f2 h,fun h => f3 h,fun h => f4 h,fun h => f5 h,fun h => f6 h,fun h => f7 h,fun h => f8 h,fun h => f9 h,fun _ => rfl,fun h => f11 h⟩
           ·intro L x a wR K hL hd hf hx hΦ hK
            obtain ⟨hI,f0,f1,f2,f3,f4,f5,f6,f7,f8,f9,f10,f11⟩:=hΦ
            refine ⟨fun _ => ?_,fun h => absurd h (by rw [Go.RE.wanted_none rfl]; decide)⟩
            have d9:=f9 (hd 9 (by kernel_rfl))
            have e102:a.tmps[102]? = some (x 102):=hx 9 _ 102 rfl rfl (hd 9 (by kernel_rfl))
            rw [d9] at e102
            clear hf hx hd
            go_simp
            refine hK _ _ ?_
            exact ⟨hI,fun h => f0 h,fun h => f1 h,fun h => f2 h,fun h => f3 h,fun h => f4 h,fun h => f5 h,fun h => f6 h,fun h => f7 h,fun h => f8 h,fun h => f9 h,fun h => f10 h,fun _ => rfl⟩
           ·rintro x W ⟨hI,f0,f1,f2,f3,f4,f5,f6,f7,f8,f9,f10,f11⟩
            simp only [Exit.then]
            go_step
            go_meet
            exact ⟨f10 rfl,f11 rfl,hI⟩
          case rest =>
           obtain ⟨rfl,rfl,hB⟩:=hcut
           replace HF1:=hid (HF1.out.below hB)
           replace HF2:=hid (HF2.out.below hB)
           replace HM3:=hid (HM3.out.below hB)
           replace HM12:=hid (HM12.out.below hB)
           replace HRW:=hid (HRW.out.below hB)
           replace HBL:=hid (below_tr HBL.out hB)
           obtain ⟨q10,hq10⟩:∃ q:World,q = wc:=⟨_,rfl⟩
           subst hq10
           clear hB
           go_upto_region 13 with (fail)
           go_cut [8,9] from 103 to 115 (fun v8 v9 wx => v8 = .int .i64 (3:Int) /\ v9 = .int .i64 0 /\ Below q10.heap.size q10 wx)
           case first =>
            refine Go.RE.wp_region_eachg [104,105,106,107,108,109,110,111,112,113,103,114,115,8,9] (fun L x W => (Below q10.heap.size q10 W) /\ (L 0 = true -> IsMv W (x 104) (awM2)) /\ (L 1 = true -> IsFv W (x 105) (AtomF (pqr 0))) /\ (L 2 = true -> IsFv W (x 106) (AtomF (pqr 0))) /\ (L 3 = true -> IsFsV W (x 107) [AtomF (pqr 0)]) /\ (L 4 = true -> IsFv W (x 108) (.mk 11 ⟨#[]⟩ [] [AtomF (pqr 0)])) /\ (L 5 = true -> IsFsV W (x 109) [.mk 11 ⟨#[]⟩ [] [AtomF (pqr 0)]]) /\ (L 6 = true -> IsFv W (x 110) (.mk 10 ⟨#[]⟩ [] [.mk 11 ⟨#[]⟩ [] [AtomF (pqr 0)]])) /\ (L 7 = true -> IsFsV W (x 111) [AtomF (pqr 0),.mk 10 ⟨#[]⟩ [] [.mk 11 ⟨#[]⟩ [] [AtomF (pqr 0)]]]) /\ (L 8 = true -> IsFv W (x 112) (.mk 6 ⟨#[]⟩ [] [AtomF (pqr 0),.mk 10 ⟨#[]⟩ [] [.mk 11 ⟨#[]⟩ [] [AtomF (pqr 0)]]])) /\ (L 9 = true -> x 113 = .tuple #[.int .i64 (3:Int),.int .i64 0]) /\ (L 10 = true -> x 103 = .tuple #[.int .i64 (3:Int),.int .i64 0]) /\ (L 11 = true -> x 114 = .int .i64 (3:Int)) /\ (L 12 = true -> x 115 = .int .i64 0) /\ (L 13 = true -> x 8 = .int .i64 (3:Int)) /\ (L 14 = true -> x 9 = .int .i64 0)) (by kernel_rfl) (by kernel_rfl) (by kernel_rfl) ?_ ((Go.RE.Each.cons ?_ (Go.RE.Each.cons ?_ (Go.RE.Each.cons ?_ (Go.RE.Each.cons ?_ (Go.RE.Each.cons ?_ (Go.RE.Each.cons ?_ (Go.RE.Each.cons ?_ (Go.RE.Each.cons ?_ (Go.RE.Each.cons ?_ (Go.RE.Each.cons ?_ (Go.RE.Each.cons ?_ (Go.RE.Each.cons ?_ (Go.RE.Each.cons ?_ (Go.RE.Each.cons ?_ (Go.RE.Each.cons ?_ Go.RE.Each.nil)))))))))))))))) ?_
            ·exact fun x => ⟨bl_dr (Below.refl _ _),fun h => (by cases h),fun h => (by cases h),fun h => (by cases h),fun h => (by cases h),fun h => (by cases h),fun h => (by cases h),fun h => (by cases h),fun h => (by cases h),fun h => (by cases h),fun h => (by cases h),fun h => (by cases h),fun h => (by cases h),fun h => (by cases h),fun h => (by cases h),fun h => (by cases h)⟩
            ·intro L x a wR K hL hd hf hx hΦ hK
             obtain ⟨hI,f0,f1,f2,f3,f4,f5,f6,f7,f8,f9,f10,f11,f12,f13,f14⟩:=hΦ
             refine ⟨fun _ => ?_,fun h => absurd h (by rw [Go.RE.wanted_none rfl]; decide)⟩
             have e12:a.tmps[12]? = some (.pointer (some ⟨B12,0,none⟩)):=hf 12 (of_decide_eq_true (by kernel_rfl))
             clear hf hx hd
             obtain ⟨mk,mz,lp,r0,r1,r2,t0,t1,t2,u0,u1,u2,b0,b1,b2,hb,h2,h3,h5,h4⟩:=(HM12.out.below hI)
             have cc:=HK.blk_cell hb
             have c0:=cc 0
             have c1:=cc 1
             have c2:=cc 2
             have c3:=cc 3
             have c4:=cc 4
             have c5:=cc 5
             have c6:=cc 6
             clear cc
             go_simp
             refine hK _ _ ?_
             exact ⟨hI,fun _ => ⟨mk,mz,lp,r0,r1,r2,t0,t1,t2,u0,u1,u2,b0,b1,b2,rfl,h2,h3,h5,h4⟩,fun h => f1 h,fun h => f2 h,fun h => f3 h,fun h => f4 h,fun h => f5 h,fun h => f6 h,fun h => f7 h,fun h => f8 h,fun h => f9 h,fun h => f10 h,fun h => f11 h,fun h => f12 h,fun h => f13 h,fun h => f14 h⟩
            ·intro L x a wR K hL hd hf hx hΦ hK
             obtain ⟨hI,f0,f1,f2,f3,f4,f5,f6,f7,f8,f9,f10,f11,f12,f13,f14⟩:=hΦ
             refine ⟨fun _ => ?_,fun h => absurd h (by rw [Go.RE.wanted_none rfl]; decide)⟩
             have e1:a.tmps[1]? = some (.pointer (some ⟨B1,0,none⟩)):=hf 1 (of_decide_eq_true (by kernel_rfl))
             clear hf hx hd
             obtain ⟨o,nm,a0,a1,a2,s0,s1,s2,hb,h2,h3,h4⟩:=(HF1.out.below hI)
             have cc:=HK.blk_cell hb
             have c0:=cc 0
             have c1:=cc 1
             have c2:=cc 2
             have c3:=cc 3
             clear cc
             go_simp
             refine hK _ _ ?_
             exact ⟨hI,fun h => f0 h,fun _ => ⟨o,nm,a0,a1,a2,s0,s1,s2,rfl,h2,h3,h4⟩,fun h => f2 h,fun h => f3 h,fun h => f4 h,fun h => f5 h,fun h => f6 h,fun h => f7 h,fun h => f8 h,fun h => f9 h,fun h => f10 h,fun h => f11 h,fun h => f12 h,fun h => f13 h,fun h => f14 h⟩
            ·intro L x a wR K hL hd hf hx hΦ hK
             obtain ⟨hI,f0,f1,f2,f3,f4,f5,f6,f7,f8,f9,f10,f11,f12,f13,f14⟩:=hΦ
             refine ⟨fun _ => ?_,fun h => absurd h (by rw [Go.RE.wanted_none rfl]; decide)⟩
             have e1:a.tmps[1]? = some (.pointer (some ⟨B1,0,none⟩)):=hf 1 (of_decide_eq_true (by kernel_rfl))
             clear hf hx hd
             obtain ⟨o,nm,a0,a1,a2,s0,s1,s2,hb,h2,h3,h4⟩:=(HF1.out.below hI)
             have cc:=HK.blk_cell hb
             have c0:=cc 0
             have c1:=cc 1
             have c2:=cc 2
             have c3:=cc 3
             clear cc
             go_simp
             refine hK _ _ ?_
             exact ⟨hI,fun h => f0 h,fun h => f1 h,fun _ => ⟨o,nm,a0,a1,a2,s0,s1,s2,rfl,h2,h3,h4⟩,fun h => f3 h,fun h => f4 h,fun h => f5 h,fun h => f6 h,fun h => f7 h,fun h => f8 h,fun h => f9 h,fun h => f10 h,fun h => f11 h,fun h => f12 h,fun h => f13 h,fun h => f14 h⟩
            ·intro L x a wR K hL hd hf hx hΦ hK
             obtain ⟨hI,f0,f1,f2,f3,f4,f5,f6,f7,f8,f9,f10,f11,f12,f13,f14⟩:=hΦ
             refine ⟨fun _ => ?_,fun h => absurd h (by rw [Go.RE.wanted_none rfl]; decide)⟩
             have d2:=f2 (hd 2 (by kernel_rfl))
             have e106:a.tmps[106]? = some (x 106):=hx 2 _ 106 rfl rfl (hd 2 (by kernel_rfl))
             clear hf hx hd
             obtain ⟨o,nm,a0,a1,a2,s0,s1,s2,hv,h2,h3,h4⟩:=d2
             rw [hv] at e106
             go_simp
             refine hK _ _ ?_
             exact ⟨below_tr hI (below_alloc _ _),fun h => (f0 h).below (below_alloc wR _),fun h => (f1 h).below (below_alloc wR _),fun h => (f2 h).below (below_alloc wR _),fun _ => build1 h2 h3 h4,fun h => (f4 h).below (below_alloc wR _),fun h => (f5 h).below (below_alloc wR _),fun h => (f6 h).below (below_alloc wR _),fun h => (f7 h).below (below_alloc wR _),fun h => (f8 h).below (below_alloc wR _),fun h => f9 h,fun h => f10 h,fun h => f11 h,fun h => f12 h,fun h => f13 h,fun h => f14 h⟩
            ·intro L x a wR K hL hd hf hx hΦ hK
             obtain ⟨hI,f0,f1,f2,f3,f4,f5,f6,f7,f8,f9,f10,f11,f12,f13,f14⟩:=hΦ
             refine ⟨fun _ => ?_,fun h => absurd h (by rw [Go.RE.wanted_none rfl]; decide)⟩
             have d3:=f3 (hd 3 (by kernel_rfl))
             have e107:a.tmps[107]? = some (x 107):=hx 3 _ 107 rfl rfl (hd 3 (by kernel_rfl))
             clear hf hx hd
             obtain ⟨s0,s1,s2,hv,h2⟩:=d3
             rw [hv] at e107
             have HC:Hid (Calls Tryd.prog 15 #[.int .u8 11,.slice s0 s1 s2] wR fun e w' => e = .returned (.agg #[.int .u8 11,.string ⟨#[]⟩,.slice none 0 0,.slice s0 s1 s2]) /\ IsFv w' (.agg #[.int .u8 11,.string ⟨#[]⟩,.slice none 0 0,.slice s0 s1 s2]) (.mk 11 ⟨#[]⟩ [] [AtomF (pqr 0)]) /\ Below wR.heap.size wR w'):=hid (joinv (op:=11) (by omega) ⟨s0,s1,s2,rfl,h2⟩)
             go_simp
             go_at_call 15
             with_reducible refine HC.out.mono ?_
             rintro e w' ⟨rfl,hfv,hB8⟩
             simp only
             refine hK _ _ ?_
             exact ⟨below_tr hI hB8,fun h => (f0 h).below hB8,fun h => (f1 h).below hB8,fun h => (f2 h).below hB8,fun h => (f3 h).below hB8,fun _ => hfv,fun h => (f5 h).below hB8,fun h => (f6 h).below hB8,fun h => (f7 h).below hB8,fun h => (f8 h).below hB8,fun h => f9 h,fun h => f10 h,fun h => f11 h,fun h => f12 h,fun h => f13 h,fun h => f14 h⟩
            ·intro L x a wR K hL hd hf hx hΦ hK
             obtain ⟨hI,f0,f1,f2,f3,f4,f5,f6,f7,f8,f9,f10,f11,f12,f13,f14⟩:=hΦ
             refine ⟨fun _ => ?_,fun h => absurd h (by rw [Go.RE.wanted_none rfl]; decide)⟩
             have d4:=f4 (hd 4 (by kernel_rfl))
             have e108:a.tmps[108]? = some (x 108):=hx 4 _ 108 rfl rfl (hd 4 (by kernel_rfl))
             clear hf hx hd
             obtain ⟨o,nm,a0,a1,a2,s0,s1,s2,hv,h2,h3,h4⟩:=d4
             rw [hv] at e108
             go_simp
             refine hK _ _ ?_
             exact ⟨below_tr hI (below_alloc _ _),fun h => (f0 h).below (below_alloc wR _),fun h => (f1 h).below (below_alloc wR _),fun h => (f2 h).below (below_alloc wR _),fun h => (f3 h).below (below_alloc wR _),fun h => (f4 h).below (below_alloc wR _),fun _ => build1 h2 h3 h4,fun h => (f6 h).below (below_alloc wR _),fun h => (f7 h).below (below_alloc wR _),fun h => (f8 h).below (below_alloc wR _),fun h => f9 h,fun h => f10 h,fun h => f11 h,fun h => f12 h,fun h => f13 h,fun h => f14 h⟩
            ·intro L x a wR K hL hd hf hx hΦ hK
             obtain ⟨hI,f0,f1,f2,f3,f4,f5,f6,f7,f8,f9,f10,f11,f12,f13,f14⟩:=hΦ
             refine ⟨fun _ => ?_,fun h => absurd h (by rw [Go.RE.wanted_none rfl]; decide)⟩
             have d5:=f5 (hd 5 (by kernel_rfl))
             have e109:a.tmps[109]? = some (x 109):=hx 5 _ 109 rfl rfl (hd 5 (by kernel_rfl))
             clear hf hx hd
             obtain ⟨s0,s1,s2,hv,h2⟩:=d5
             rw [hv] at e109
             have HC:Hid (Calls Tryd.prog 15 #[.int .u8 10,.slice s0 s1 s2] wR fun e w' => e = .returned (.agg #[.int .u8 10,.string ⟨#[]⟩,.slice none 0 0,.slice s0 s1 s2]) /\ IsFv w' (.agg #[.int .u8 10,.string ⟨#[]⟩,.slice none 0 0,.slice s0 s1 s2]) (.mk 10 ⟨#[]⟩ [] [.mk 11 ⟨#[]⟩ [] [AtomF (pqr 0)]]) /\ Below wR.heap.size wR w'):=hid (joinv (op:=10) (by omega) ⟨s0,s1,s2,rfl,h2⟩)
             go_simp
             go_at_call 15
             with_reducible refine HC.out.mono ?_
             rintro e w' ⟨rfl,hfv,hB8⟩
             simp only
             refine hK _ _ ?_
             exact ⟨below_tr hI hB8,fun h => (f0 h).below hB8,fun h => (f1 h).below hB8,fun h => (f2 h).below hB8,fun h => (f3 h).below hB8,fun h => (f4 h).below hB8,fun h => (f5 h).below hB8,fun _ => hfv,fun h => (f7 h).below hB8,fun h => (f8 h).below hB8,fun h => f9 h,fun h => f10 h,fun h => f11 h,fun h => f12 h,fun h => f13 h,fun h => f14 h⟩
            ·intro L x a wR K hL hd hf hx hΦ hK
             obtain ⟨hI,f0,f1,f2,f3,f4,f5,f6,f7,f8,f9,f10,f11,f12,f13,f14⟩:=hΦ
             refine ⟨fun _ => ?_,fun h => absurd h (by rw [Go.RE.wanted_none rfl]; decide)⟩
             have d1:=f1 (hd 1 (by kernel_rfl))
             have e105:a.tmps[105]? = some (x 105):=hx 1 _ 105 rfl rfl (hd 1 (by kernel_rfl))
             have d6:=f6 (hd 6 (by kernel_rfl))
             have e110:a.tmps[110]? = some (x 110):=hx 6 _ 110 rfl rfl (hd 6 (by kernel_rfl))
             clear hf hx hd
             obtain ⟨o,nm,a0,a1,a2,s0,s1,s2,hv,h2,h3,h4⟩:=d1
             rw [hv] at e105
             obtain ⟨o',nm',a0',a1',a2',s0',s1',s2',hv',h2',h3',h4'⟩:=d6
             rw [hv'] at e110
             go_simp
             refine hK _ _ ?_
             exact ⟨below_tr hI (below_alloc _ _),fun h => (f0 h).below (below_alloc wR _),fun h => (f1 h).below (below_alloc wR _),fun h => (f2 h).below (below_alloc wR _),fun h => (f3 h).below (below_alloc wR _),fun h => (f4 h).below (below_alloc wR _),fun h => (f5 h).below (below_alloc wR _),fun h => (f6 h).below (below_alloc wR _),fun _ => build2 h2 h3 h4 h2' h3' h4',fun h => (f8 h).below (below_alloc wR _),fun h => f9 h,fun h => f10 h,fun h => f11 h,fun h => f12 h,fun h => f13 h,fun h => f14 h⟩
            ·intro L x a wR K hL hd hf hx hΦ hK
             obtain ⟨hI,f0,f1,f2,f3,f4,f5,f6,f7,f8,f9,f10,f11,f12,f13,f14⟩:=hΦ
             refine ⟨fun _ => ?_,fun h => absurd h (by rw [Go.RE.wanted_none rfl]; decide)⟩
             have d7:=f7 (hd 7 (by kernel_rfl))
             have e111:a.tmps[111]? = some (x 111):=hx 7 _ 111 rfl rfl (hd 7 (by kernel_rfl))
             clear hf hx hd
             obtain ⟨s0,s1,s2,hv,h2⟩:=d7
             rw [hv] at e111
             have HC:Hid (Calls Tryd.prog 15 #[.int .u8 6,.slice s0 s1 s2] wR fun e w' => e = .returned (.agg #[.int .u8 6,.string ⟨#[]⟩,.slice none 0 0,.slice s0 s1 s2]) /\ IsFv w' (.agg #[.int .u8 6,.string ⟨#[]⟩,.slice none 0 0,.slice s0 s1 s2]) (.mk 6 ⟨#[]⟩ [] [AtomF (pqr 0),.mk 10 ⟨#[]⟩ [] [.mk 11 ⟨#[]⟩ [] [AtomF (pqr 0)]]]) /\ Below wR.heap.size wR w'):=hid (joinv (op:=6) (by omega) ⟨s0,s1,s2,rfl,h2⟩)
             go_simp
             go_at_call 15
             with_reducible refine HC.out.mono ?_
             rintro e w' ⟨rfl,hfv,hB8⟩
             simp only
             refine hK _ _ ?_
             exact ⟨below_tr hI hB8,fun h => (f0 h).below hB8,fun h => (f1 h).below hB8,fun h => (f2 h).below hB8,fun h => (f3 h).below hB8,fun h => (f4 h).below hB8,fun h => (f5 h).below hB8,fun h => (f6 h).below hB8,fun h => (f7 h).below hB8,fun _ => hfv,fun h => f9 h,fun h => f10 h,fun h => f11 h,fun h => f12 h,fun h => f13 h,fun h => f14 h⟩
            ·intro L x a wR K hL hd hf hx hΦ hK
             obtain ⟨hI,f0,f1,f2,f3,f4,f5,f6,f7,f8,f9,f10,f11,f12,f13,f14⟩:=hΦ
             refine ⟨fun _ => ?_,fun h => absurd h (by rw [Go.RE.wanted_none rfl]; decide)⟩
             have d0:=f0 (hd 0 (by kernel_rfl))
             have e104:a.tmps[104]? = some (x 104):=hx 0 _ 104 rfl rfl (hd 0 (by kernel_rfl))
             have d8:=f8 (hd 8 (by kernel_rfl))
             have e112:a.tmps[112]? = some (x 112):=hx 8 _ 112 rfl rfl (hd 8 (by kernel_rfl))
             clear hf hx hd
             have hc:=at_valv d0 d8 (HRW.out.below hI) HA7.out.1 HO2.out HA7.out.2.1 HA7.out.2.2.1 HA7.out.2.2.2
             obtain ⟨mk,mz,lp,r0,r1,r2,t0,t1,t2,u0,u1,u2,b0,b1,b2,hv,_,_,_,_⟩:=d0
             obtain ⟨o',nm',a0',a1',a2',s0',s1',s2',hv',_,_,_⟩:=d8
             rw [hv] at e104
             rw [hv'] at e112
             rw [hv,hv'] at hc
             have HC:Hid (Calls Tryd.prog 16 _ _ fun e w' => e = .returned (.tuple #[.int .i64 (3:Int),.int .i64 0]) /\ _):=hid hc
             clear hc
             go_simp
             go_at_call 16
             with_reducible refine HC.out.mono ?_
             rintro e w' ⟨rfl,hB8⟩
             simp only
             refine hK _ _ ?_
             exact ⟨below_tr hI hB8,fun h => (f0 h).below hB8,fun h => (f1 h).below hB8,fun h => (f2 h).below hB8,fun h => (f3 h).below hB8,fun h => (f4 h).below hB8,fun h => (f5 h).below hB8,fun h => (f6 h).below hB8,fun h => (f7 h).below hB8,fun h => (f8 h).below hB8,fun _ => rfl,fun h => f10 h,fun h => f11 h,fun h => f12 h,fun h => f13 h,fun h => f14 h⟩
            ·intro L x a wR K hL hd hf hx hΦ hK
             obtain ⟨hI,f0,f1,f2,f3,f4,f5,f6,f7,f8,f9,f10,f11,f12,f13,f14⟩:=hΦ
             refine ⟨fun _ => ?_,fun h => absurd h (by rw [Go.RE.wanted_none rfl]; decide)⟩
             have d9:=f9 (hd 9 (by kernel_rfl))
             have e113:a.tmps[113]? = some (x 113):=hx 9 _ 113 rfl rfl (hd 9 (by kernel_rfl))
             rw [d9] at e113
             clear hf hx hd
             go_simp
             refine hK _ _ ?_
             exact ⟨hI,fun h => f0 h,fun h => f1 h,fun h => f2 h,fun h => f3 h,fun h => f4 h,fun h => f5 h,fun h => f6 h,fun h => f7 h,fun h => f8 h,fun h => f9 h,fun _ => rfl,fun h => f11 h,fun h => f12 h,fun h => f13 h,fun h => f14 h⟩
            ·intro L x a wR K hL hd hf hx hΦ hK
             obtain ⟨hI,f0,f1,f2,f3,f4,f5,f6,f7,f8,f9,f10,f11,f12,f13,f14⟩:=hΦ
             refine ⟨fun _ => ?_,fun h => absurd h (by rw [Go.RE.wanted_none rfl]; decide)⟩
             have d10:=f10 (hd 10 (by kernel_rfl))
             have e103:a.tmps[103]? = some (x 103):=hx 10 _ 103 rfl rfl (hd 10 (by kernel_rfl))
             rw [d10] at e103
             clear hf hx hd
             go_simp
             refine hK _ _ ?_
             exact ⟨hI,fun h => f0 h,fun h => f1 h,fun h => f2 h,fun h => f3 h,fun h => f4 h,fun h => f5 h,fun h => f6 h,fun h => f7 h,fun h => f8 h,fun h => f9 h,fun h => f10 h,fun _ => rfl,fun h => f12 h,fun h => f13 h,fun h => f14 h⟩
            ·intro L x a wR K hL hd hf hx hΦ hK
             obtain ⟨hI,f0,f1,f2,f3,f4,f5,f6,f7,f8,f9,f10,f11,f12,f13,f14⟩:=hΦ
             refine ⟨fun _ => ?_,fun h => absurd h (by rw [Go.RE.wanted_none rfl]; decide)⟩
             have d10:=f10 (hd 10 (by kernel_rfl))
             have e103:a.tmps[103]? = some (x 103):=hx 10 _ 103 rfl rfl (hd 10 (by kernel_rfl))
             rw [d10] at e103
             clear hf hx hd
             go_simp
             refine hK _ _ ?_
             exact ⟨hI,fun h => f0 h,fun h => f1 h,fun h => f2 h,fun h => f3 h,fun h => f4 h,fun h => f5 h,fun h => f6 h,fun h => f7 h,fun h => f8 h,fun h => f9 h,fun h => f10 h,fun h => f11 h,fun _ => rfl,fun h => f13 h,fun h => f14 h⟩
            ·intro L x a wR K hL hd hf hx hΦ hK
             obtain ⟨hI,f0,f1,f2,f3,f4,f5,f6,f7,f8,f9,f10,f11,f12,f13,f14⟩:=hΦ
             refine ⟨fun _ => ?_,fun h => absurd h (by rw [Go.RE.wanted_none rfl]; decide)⟩
             have d11:=f11 (hd 11 (by kernel_rfl))
             have e114:a.tmps[114]? = some (x 114):=hx 11 _ 114 rfl rfl (hd 11 (by kernel_rfl))
             rw [d11] at e114
             clear hf hx hd
             go_simp
             refine hK _ _ ?_
             exact ⟨hI,fun h => f0 h,fun h => f1 h,fun h => f2 h,fun h => f3 h,fun h => f4 h,fun h => f5 h,fun h => f6 h,fun h => f7 h,fun h => f8 h,fun h => f9 h,fun h => f10 h,fun h => f11 h,fun h => f12 h,fun _ => rfl,fun h => f14 h⟩
            ·intro L x a wR K hL hd hf hx hΦ hK
             obtain ⟨hI,f0,f1,f2,f3,f4,f5,f6,f7,f8,f9,f10,f11,f12,f13,f14⟩:=hΦ
             refine ⟨fun _ => ?_,fun h => absurd h (by rw [Go.RE.wanted_none rfl]; decide)⟩
             have d12:=f12 (hd 12 (by kernel_rfl))
             have e115:a.tmps[115]? = some (x 115):=hx 12 _ 115 rfl rfl (hd 12 (by kernel_rfl))
             rw [d12] at e115
             clear hf hx hd
             go_simp
             refine hK _ _ ?_
             exact ⟨hI,fun h => f0 h,fun h => f1 h,fun h => f2 h,fun h => f3 h,fun h => f4 h,fun h => f5 h,fun h => f6 h,fun h => f7 h,fun h => f8 h,fun h => f9 h,fun h => f10 h,fun h => f11 h,fun h => f12 h,fun h => f13 h,fun _ => rfl⟩
            ·rintro x W ⟨hI,f0,f1,f2,f3,f4,f5,f6,f7,f8,f9,f10,f11,f12,f13,f14⟩
             simp only [Exit.then]
             go_step
             go_meet
             exact ⟨f13 rfl,f14 rfl,hI⟩
           case rest =>
            obtain ⟨rfl,rfl,hB⟩:=hcut
            replace HF1:=hid (HF1.out.below hB)
            replace HF2:=hid (HF2.out.below hB)
            replace HM3:=hid (HM3.out.below hB)
            replace HM12:=hid (HM12.out.below hB)
            replace HRW:=hid (HRW.out.below hB)
            replace HBL:=hid (below_tr HBL.out hB)
            obtain ⟨q11,hq11⟩:∃ q:World,q = wc:=⟨_,rfl⟩
            subst hq11
            clear hB
            go_upto_region 14 with (fail)
            go_cut [13,11] from 116 to 123 (fun v13 v11 wx => v13 = .bool true /\ v11 = .int .i64 0 /\ Below q11.heap.size q11 wx)
            case first =>
             refine Go.RE.wp_region_eachg [117,118,119,120,121,116,122,123,13,11] (fun L x W => (Below q11.heap.size q11 W) /\ (L 0 = true -> IsMv W (x 117) (awM2)) /\ (L 1 = true -> IsFv W (x 118) (AtomF (pqr 0))) /\ (L 2 = true -> IsFsV W (x 119) [AtomF (pqr 0)]) /\ (L 3 = true -> IsFv W (x 120) (.mk 10 ⟨#[]⟩ [] [AtomF (pqr 0)])) /\ (L 4 = true -> x 121 = .tuple #[.bool true,.int .i64 0]) /\ (L 5 = true -> x 116 = .tuple #[.bool true,.int .i64 0]) /\ (L 6 = true -> x 122 = .bool true) /\ (L 7 = true -> x 123 = .int .i64 0) /\ (L 8 = true -> x 13 = .bool true) /\ (L 9 = true -> x 11 = .int .i64 0)) (by kernel_rfl) (by kernel_rfl) (by kernel_rfl) ?_ ((Go.RE.Each.cons ?_ (Go.RE.Each.cons ?_ (Go.RE.Each.cons ?_ (Go.RE.Each.cons ?_ (Go.RE.Each.cons ?_ (Go.RE.Each.cons ?_ (Go.RE.Each.cons ?_ (Go.RE.Each.cons ?_ (Go.RE.Each.cons ?_ (Go.RE.Each.cons ?_ Go.RE.Each.nil))))))))))) ?_
             ·exact fun x => ⟨bl_dr (Below.refl _ _),fun h => (by cases h),fun h => (by cases h),fun h => (by cases h),fun h => (by cases h),fun h => (by cases h),fun h => (by cases h),fun h => (by cases h),fun h => (by cases h),fun h => (by cases h),fun h => (by cases h)⟩
             ·intro L x a wR K hL hd hf hx hΦ hK
              obtain ⟨hI,f0,f1,f2,f3,f4,f5,f6,f7,f8,f9⟩:=hΦ
              refine ⟨fun _ => ?_,fun h => absurd h (by rw [Go.RE.wanted_none rfl]; decide)⟩
              have e12:a.tmps[12]? = some (.pointer (some ⟨B12,0,none⟩)):=hf 12 (of_decide_eq_true (by kernel_rfl))
              clear hf hx hd
              obtain ⟨mk,mz,lp,r0,r1,r2,t0,t1,t2,u0,u1,u2,b0,b1,b2,hb,h2,h3,h5,h4⟩:=(HM12.out.below hI)
              have cc:=HK.blk_cell hb
              have c0:=cc 0
              have c1:=cc 1
              have c2:=cc 2
              have c3:=cc 3
              have c4:=cc 4
              have c5:=cc 5
              have c6:=cc 6
              clear cc
              go_simp
              refine hK _ _ ?_
              exact ⟨hI,fun _ => ⟨mk,mz,lp,r0,r1,r2,t0,t1,t2,u0,u1,u2,b0,b1,b2,rfl,h2,h3,h5,h4⟩,fun h => f1 h,fun h => f2 h,fun h => f3 h,fun h => f4 h,fun h => f5 h,fun h => f6 h,fun h => f7 h,fun h => f8 h,fun h => f9 h⟩
             ·intro L x a wR K hL hd hf hx hΦ hK
              obtain ⟨hI,f0,f1,f2,f3,f4,f5,f6,f7,f8,f9⟩:=hΦ
              refine ⟨fun _ => ?_,fun h => absurd h (by rw [Go.RE.wanted_none rfl]; decide)⟩
              have e1:a.tmps[1]? = some (.pointer (some ⟨B1,0,none⟩)):=hf 1 (of_decide_eq_true (by kernel_rfl))
              clear hf hx hd
              obtain ⟨o,nm,a0,a1,a2,s0,s1,s2,hb,h2,h3,h4⟩:=(HF1.out.below hI)
              have cc:=HK.blk_cell hb
              have c0:=cc 0
              have c1:=cc 1
              have c2:=cc 2
              have c3:=cc 3
              clear cc
              go_simp
              refine hK _ _ ?_
              exact ⟨hI,fun h => f0 h,fun _ => ⟨o,nm,a0,a1,a2,s0,s1,s2,rfl,h2,h3,h4⟩,fun h => f2 h,fun h => f3 h,fun h => f4 h,fun h => f5 h,fun h => f6 h,fun h => f7 h,fun h => f8 h,fun h => f9 h⟩
             ·intro L x a wR K hL hd hf hx hΦ hK
              obtain ⟨hI,f0,f1,f2,f3,f4,f5,f6,f7,f8,f9⟩:=hΦ
              refine ⟨fun _ => ?_,fun h => absurd h (by rw [Go.RE.wanted_none rfl]; decide)⟩
              have d1:=f1 (hd 1 (by kernel_rfl))
              have e118:a.tmps[118]? = some (x 118):=hx 1 _ 118 rfl rfl (hd 1 (by kernel_rfl))
              clear hf hx hd
              obtain ⟨o,nm,a0,a1,a2,s0,s1,s2,hv,h2,h3,h4⟩:=d1
              rw [hv] at e118
              go_simp
              refine hK _ _ ?_
              exact ⟨below_tr hI (below_alloc _ _),fun h => (f0 h).below (below_alloc wR _),fun h => (f1 h).below (below_alloc wR _),fun _ => build1 h2 h3 h4,fun h => (f3 h).below (below_alloc wR _),fun h => f4 h,fun h => f5 h,fun h => f6 h,fun h => f7 h,fun h => f8 h,fun h => f9 h⟩
             ·intro L x a wR K hL hd hf hx hΦ hK
              obtain ⟨hI,f0,f1,f2,f3,f4,f5,f6,f7,f8,f9⟩:=hΦ
              refine ⟨fun _ => ?_,fun h => absurd h (by rw [Go.RE.wanted_none rfl]; decide)⟩
              have d2:=f2 (hd 2 (by kernel_rfl))
              have e119:a.tmps[119]? = some (x 119):=hx 2 _ 119 rfl rfl (hd 2 (by kernel_rfl))
              clear hf hx hd
              obtain ⟨s0,s1,s2,hv,h2⟩:=d2
              rw [hv] at e119
              have HC:Hid (Calls Tryd.prog 15 #[.int .u8 10,.slice s0 s1 s2] wR fun e w' => e = .returned (.agg #[.int .u8 10,.string ⟨#[]⟩,.slice none 0 0,.slice s0 s1 s2]) /\ IsFv w' (.agg #[.int .u8 10,.string ⟨#[]⟩,.slice none 0 0,.slice s0 s1 s2]) (.mk 10 ⟨#[]⟩ [] [AtomF (pqr 0)]) /\ Below wR.heap.size wR w'):=hid (joinv (op:=10) (by omega) ⟨s0,s1,s2,rfl,h2⟩)
              go_simp
              go_at_call 15
              with_reducible refine HC.out.mono ?_
              rintro e w' ⟨rfl,hfv,hB8⟩
              simp only
              refine hK _ _ ?_
              exact ⟨below_tr hI hB8,fun h => (f0 h).below hB8,fun h => (f1 h).below hB8,fun h => (f2 h).below hB8,fun _ => hfv,fun h => f4 h,fun h => f5 h,fun h => f6 h,fun h => f7 h,fun h => f8 h,fun h => f9 h⟩
             ·intro L x a wR K hL hd hf hx hΦ hK
              obtain ⟨hI,f0,f1,f2,f3,f4,f5,f6,f7,f8,f9⟩:=hΦ
              refine ⟨fun _ => ?_,fun h => absurd h (by rw [Go.RE.wanted_none rfl]; decide)⟩
              have d0:=f0 (hd 0 (by kernel_rfl))
              have e117:a.tmps[117]? = some (x 117):=hx 0 _ 117 rfl rfl (hd 0 (by kernel_rfl))
              have d3:=f3 (hd 3 (by kernel_rfl))
              have e120:a.tmps[120]? = some (x 120):=hx 3 _ 120 rfl rfl (hd 3 (by kernel_rfl))
              clear hf hx hd
              have hc:=holds_valv d0 d3 (HRW.out.below hI) HA8.out.1 HO2.out HA8.out.2.1 HA8.out.2.2.1 HA8.out.2.2.2
              obtain ⟨mk,mz,lp,r0,r1,r2,t0,t1,t2,u0,u1,u2,b0,b1,b2,hv,_,_,_,_⟩:=d0
              obtain ⟨o',nm',a0',a1',a2',s0',s1',s2',hv',_,_,_⟩:=d3
              rw [hv] at e117
              rw [hv'] at e120
              rw [hv,hv'] at hc
              have HC:Hid (Calls Tryd.prog 17 _ _ fun e w' => e = .returned (.tuple #[.bool true,.int .i64 0]) /\ _):=hid hc
              clear hc
              go_simp
              go_at_call 17
              with_reducible refine HC.out.mono ?_
              rintro e w' ⟨rfl,hB8⟩
              simp only
              refine hK _ _ ?_
              exact ⟨below_tr hI hB8,fun h => (f0 h).below hB8,fun h => (f1 h).below hB8,fun h => (f2 h).below hB8,fun h => (f3 h).below hB8,fun _ => rfl,fun h => f5 h,fun h => f6 h,fun h => f7 h,fun h => f8 h,fun h => f9 h⟩
             ·intro L x a wR K hL hd hf hx hΦ hK
              obtain ⟨hI,f0,f1,f2,f3,f4,f5,f6,f7,f8,f9⟩:=hΦ
              refine ⟨fun _ => ?_,fun h => absurd h (by rw [Go.RE.wanted_none rfl]; decide)⟩
              have d4:=f4 (hd 4 (by kernel_rfl))
              have e121:a.tmps[121]? = some (x 121):=hx 4 _ 121 rfl rfl (hd 4 (by kernel_rfl))
              rw [d4] at e121
              clear hf hx hd
              go_simp
              refine hK _ _ ?_
              exact ⟨hI,fun h => f0 h,fun h => f1 h,fun h => f2 h,fun h => f3 h,fun h => f4 h,fun _ => rfl,fun h => f6 h,fun h => f7 h,fun h => f8 h,fun h => f9 h⟩
             ·intro L x a wR K hL hd hf hx hΦ hK
              obtain ⟨hI,f0,f1,f2,f3,f4,f5,f6,f7,f8,f9⟩:=hΦ
              refine ⟨fun _ => ?_,fun h => absurd h (by rw [Go.RE.wanted_none rfl]; decide)⟩
              have d5:=f5 (hd 5 (by kernel_rfl))
              have e116:a.tmps[116]? = some (x 116):=hx 5 _ 116 rfl rfl (hd 5 (by kernel_rfl))
              rw [d5] at e116
              clear hf hx hd
              go_simp
              refine hK _ _ ?_
              exact ⟨hI,fun h => f0 h,fun h => f1 h,fun h => f2 h,fun h => f3 h,fun h => f4 h,fun h => f5 h,fun _ => rfl,fun h => f7 h,fun h => f8 h,fun h => f9 h⟩
             ·intro L x a wR K hL hd hf hx hΦ hK
              obtain ⟨hI,f0,f1,f2,f3,f4,f5,f6,f7,f8,f9⟩:=hΦ
              refine ⟨fun _ => ?_,fun h => absurd h (by rw [Go.RE.wanted_none rfl]; decide)⟩
              have d5:=f5 (hd 5 (by kernel_rfl))
              have e116:a.tmps[116]? = some (x 116):=hx 5 _ 116 rfl rfl (hd 5 (by kernel_rfl))
              rw [d5] at e116
              clear hf hx hd
              go_simp
              refine hK _ _ ?_
              exact ⟨hI,fun h => f0 h,fun h => f1 h,fun h => f2 h,fun h => f3 h,fun h => f4 h,fun h => f5 h,fun h => f6 h,fun _ => rfl,fun h => f8 h,fun h => f9 h⟩
             ·intro L x a wR K hL hd hf hx hΦ hK
              obtain ⟨hI,f0,f1,f2,f3,f4,f5,f6,f7,f8,f9⟩:=hΦ
              refine ⟨fun _ => ?_,fun h => absurd h (by rw [Go.RE.wanted_none rfl]; decide)⟩
              have d6:=f6 (hd 6 (by kernel_rfl))
              have e122:a.tmps[122]? = some (x 122):=hx 6 _ 122 rfl rfl (hd 6 (by kernel_rfl))
              rw [d6] at e122
              clear hf hx hd
              go_simp
              refine hK _ _ ?_
              exact ⟨hI,fun h => f0 h,fun h => f1 h,fun h => f2 h,fun h => f3 h,fun h => f4 h,fun h => f5 h,fun h => f6 h,fun h => f7 h,fun _ => rfl,fun h => f9 h⟩
             ·intro L x a wR K hL hd hf hx hΦ hK
              obtain ⟨hI,f0,f1,f2,f3,f4,f5,f6,f7,f8,f9⟩:=hΦ
              refine ⟨fun _ => ?_,fun h => absurd h (by rw [Go.RE.wanted_none rfl]; decide)⟩
              have d7:=f7 (hd 7 (by kernel_rfl))
              have e123:a.tmps[123]? = some (x 123):=hx 7 _ 123 rfl rfl (hd 7 (by kernel_rfl))
              rw [d7] at e123
              clear hf hx hd
              go_simp
              refine hK _ _ ?_
              exact ⟨hI,fun h => f0 h,fun h => f1 h,fun h => f2 h,fun h => f3 h,fun h => f4 h,fun h => f5 h,fun h => f6 h,fun h => f7 h,fun h => f8 h,fun _ => rfl⟩
             ·rintro x W ⟨hI,f0,f1,f2,f3,f4,f5,f6,f7,f8,f9⟩
              simp only [Exit.then]
              go_step
              go_meet
              exact ⟨f8 rfl,f9 rfl,hI⟩
            case rest =>
             obtain ⟨rfl,rfl,hB⟩:=hcut
             replace HF1:=hid (HF1.out.below hB)
             replace HF2:=hid (HF2.out.below hB)
             replace HM3:=hid (HM3.out.below hB)
             replace HM12:=hid (HM12.out.below hB)
             replace HRW:=hid (HRW.out.below hB)
             replace HBL:=hid (below_tr HBL.out hB)
             obtain ⟨q12,hq12⟩:∃ q:World,q = wc:=⟨_,rfl⟩
             subst hq12
             clear hB
             go_upto_region 17 with (fail)
             go_cut [14,5] from 148 to 152 (fun v14 v5 wx => v14 = .int .i64 2 /\ v5 = .int .i64 0 /\ Below q12.heap.size q12 wx)
             case first =>
              have hS:IsS (q12.alloc (.cells #[.string ⟨#[80]⟩] 9)) q12.heap.size 0 [pqr 0]:=isS1 _
              have HC:Hid (Calls Tryd.prog 32 #[.int .u8 3,.int .u8 0,.slice (some ⟨q12.heap.size,0,none⟩) 1 1,.int .i64 1] (q12.alloc (.cells #[.string ⟨#[80]⟩] 9)) fun e w' => e = .returned (.tuple #[.int .i64 2,.int .i64 0]) /\ Below _ _ w'):=hid (count_val (W:=q12.alloc (.cells #[.string ⟨#[80]⟩] 9)) (c:=1) 3 1 hS cnt1)
              clear hS
              go_wp2_with (go_at_call 32; ((with_reducible refine HC.out.mono ?_); rintro e w' ⟨rfl,hB⟩))
              go_meet
              exact ⟨rfl,rfl,below_tr (below_alloc _ _) hB⟩
             case rest =>
              obtain ⟨rfl,rfl,hB⟩:=hcut
              replace HF1:=hid (HF1.out.below hB)
              replace HF2:=hid (HF2.out.below hB)
              replace HM3:=hid (HM3.out.below hB)
              replace HM12:=hid (HM12.out.below hB)
              replace HRW:=hid (HRW.out.below hB)
              replace HBL:=hid (below_tr HBL.out hB)
              obtain ⟨q13,hq13⟩:∃ q:World,q = wc:=⟨_,rfl⟩
              subst hq13
              clear hB
              go_upto_region 18 with (fail)
              go_cut [15,7] from 153 to 157 (fun v15 v7 wx => v15 = .int .i64 3 /\ v7 = .int .i64 0 /\ Below q13.heap.size q13 wx)
              case first =>
               have hS:IsS (q13.alloc (.cells #[.string ⟨#[80]⟩] 9)) q13.heap.size 0 [pqr 0]:=isS1 _
               have HC:Hid (Calls Tryd.prog 32 #[.int .u8 3,.int .u8 0,.slice (some ⟨q13.heap.size,0,none⟩) 1 1,.int .i64 2] (q13.alloc (.cells #[.string ⟨#[80]⟩] 9)) fun e w' => e = .returned (.tuple #[.int .i64 3,.int .i64 0]) /\ Below _ _ w'):=hid (count_val (W:=q13.alloc (.cells #[.string ⟨#[80]⟩] 9)) (c:=1) 3 2 hS cnt2)
               clear hS
               go_wp2_with (go_at_call 32; ((with_reducible refine HC.out.mono ?_); rintro e w' ⟨rfl,hB⟩))
               go_meet
               exact ⟨rfl,rfl,below_tr (below_alloc _ _) hB⟩
              case rest =>
               obtain ⟨rfl,rfl,hB⟩:=hcut
               replace HF1:=hid (HF1.out.below hB)
               replace HF2:=hid (HF2.out.below hB)
               replace HM3:=hid (HM3.out.below hB)
               replace HM12:=hid (HM12.out.below hB)
               replace HRW:=hid (HRW.out.below hB)
               replace HBL:=hid (below_tr HBL.out hB)
               obtain ⟨q14,hq14⟩:∃ q:World,q = wc:=⟨_,rfl⟩
               subst hq14
               clear hB
               go_upto_region 19 with (fail)
               go_cut [16,9] from 158 to 162 (fun v16 v9 wx => v16 = .int .i64 64 /\ v9 = .int .i64 0 /\ Below q14.heap.size q14 wx)
               case first =>
                have hS:IsS (q14.alloc (.cells #[.string ⟨#[80]⟩] 9)) q14.heap.size 0 [pqr 0]:=isS1 _
                have HC:Hid (Calls Tryd.prog 32 #[.int .u8 4,.int .u8 0,.slice (some ⟨q14.heap.size,0,none⟩) 1 1,.int .i64 2] (q14.alloc (.cells #[.string ⟨#[80]⟩] 9)) fun e w' => e = .returned (.tuple #[.int .i64 64,.int .i64 0]) /\ Below _ _ w'):=hid (count_val (W:=q14.alloc (.cells #[.string ⟨#[80]⟩] 9)) (c:=1) 4 2 hS cnt3)
                clear hS
                go_wp2_with (go_at_call 32; ((with_reducible refine HC.out.mono ?_); rintro e w' ⟨rfl,hB⟩))
                go_meet
                exact ⟨rfl,rfl,below_tr (below_alloc _ _) hB⟩
               case rest =>
                obtain ⟨rfl,rfl,hB⟩:=hcut
                replace HF1:=hid (HF1.out.below hB)
                replace HF2:=hid (HF2.out.below hB)
                replace HM3:=hid (HM3.out.below hB)
                replace HM12:=hid (HM12.out.below hB)
                replace HRW:=hid (HRW.out.below hB)
                replace HBL:=hid (below_tr HBL.out hB)
                obtain ⟨q15,hq15⟩:∃ q:World,q = wc:=⟨_,rfl⟩
                subst hq15
                clear hB
                go_upto_region 20 with (fail)
                go_cut [17,11] from 163 to 167 (fun v17 v11 wx => ∃ g cc,v17 = .slice (some ⟨g,0,none⟩) 3 cc /\ v11 = .int .i64 0 /\ wx.ownsRow 0 3 1 (.slice (some ⟨g,0,none⟩) 3 cc) 3 (ints [6,4,0]) /\ Below q15.heap.size q15 wx)
                case first =>
                 have hR:IsR (q15.alloc (.cells #[.int .i64 2,.int .i64 4,.int .i64 0] 3)) q15.heap.size 0 [2,4,0]:=isR3 (HK.blk_new _ _)
                 have hc:Calls Tryd.prog 22 #[.slice (some ⟨q15.heap.size,0,none⟩) 3 3,.int .u8 2] (q15.alloc (.cells #[.int .i64 2,.int .i64 4,.int .i64 0] 3)) (RetClo (q15.alloc (.cells #[.int .i64 2,.int .i64 4,.int .i64 0] 3)) 2 [2,4,0]):=close_yes (q15.alloc (.cells #[.int .i64 2,.int .i64 4,.int .i64 0] 3)) q15.heap.size 0 3 3 [2,4,0] hR rfl frok240 (by omega) 2 (by omega)
                 have HC:=hid hc
                 clear hR hc
                 unfold RetClo at HC
                 go_wp2_with (go_at_call 22; ((with_reducible refine HC.out.mono ?_); rintro e w' ⟨out,v,rfl,hclo,hown,hB⟩))
                 obtain rfl:out = [6,4,0]:=hclo.unique clo2
                 go_meet
                 obtain ⟨g,cc,rfl,_,_⟩:=own_form9 hown (by decide)
                 exact ⟨g,cc,rfl,rfl,own_mono0 hown,below_tr (below_alloc _ _) hB⟩
                case rest =>
                 obtain ⟨g20,cc20,rfl,rfl,hown,hB⟩:=hcut
                 have HY20:=hid hown
                 replace HF1:=hid (HF1.out.below hB)
                 replace HF2:=hid (HF2.out.below hB)
                 replace HM3:=hid (HM3.out.below hB)
                 replace HM12:=hid (HM12.out.below hB)
                 replace HRW:=hid (HRW.out.below hB)
                 replace HBL:=hid (below_tr HBL.out hB)
                 obtain ⟨q16,hq16⟩:∃ q:World,q = wc:=⟨_,rfl⟩
                 subst hq16
                 clear hB hown
                 go_upto_region 21 with (fail)
                 go_cut [18,19] from 168 to 172 (fun v18 v19 wx => ∃ g cc,v18 = .slice (some ⟨g,0,none⟩) 3 cc /\ v19 = .int .i64 0 /\ wx.ownsRow 0 3 1 (.slice (some ⟨g,0,none⟩) 3 cc) 3 (ints [7,7,7]) /\ Below q16.heap.size q16 wx)
                 case first =>
                  have hR:IsR (q16.alloc (.cells #[.int .i64 2,.int .i64 4,.int .i64 0] 3)) q16.heap.size 0 [2,4,0]:=isR3 (HK.blk_new _ _)
                  have hc:Calls Tryd.prog 22 #[.slice (some ⟨q16.heap.size,0,none⟩) 3 3,.int .u8 7] (q16.alloc (.cells #[.int .i64 2,.int .i64 4,.int .i64 0] 3)) (RetClo (q16.alloc (.cells #[.int .i64 2,.int .i64 4,.int .i64 0] 3)) 7 [2,4,0]):=close_yes (q16.alloc (.cells #[.int .i64 2,.int .i64 4,.int .i64 0] 3)) q16.heap.size 0 3 3 [2,4,0] hR rfl frok240 (by omega) 7 (by omega)
                  have HC:=hid hc
                  clear hR hc
                  unfold RetClo at HC
                  go_wp2_with (go_at_call 22; ((with_reducible refine HC.out.mono ?_); rintro e w' ⟨out,v,rfl,hclo,hown,hB⟩))
                  obtain rfl:out = [7,7,7]:=hclo.unique clo7
                  go_meet
                  obtain ⟨g,cc,rfl,_,_⟩:=own_form9 hown (by decide)
                  exact ⟨g,cc,rfl,rfl,own_mono0 hown,below_tr (below_alloc _ _) hB⟩
                 case rest =>
                  obtain ⟨g21,cc21,rfl,rfl,hown,hB⟩:=hcut
                  replace HY20:=hid (own_below9 HY20.out hB)
                  have HY21:=hid hown
                  replace HF1:=hid (HF1.out.below hB)
                  replace HF2:=hid (HF2.out.below hB)
                  replace HM3:=hid (HM3.out.below hB)
                  replace HM12:=hid (HM12.out.below hB)
                  replace HRW:=hid (HRW.out.below hB)
                  replace HBL:=hid (below_tr HBL.out hB)
                  obtain ⟨q17,hq17⟩:∃ q:World,q = wc:=⟨_,rfl⟩
                  subst hq17
                  clear hB hown
                  have HS1:Hid (Calls Tryd.prog 27 #[.slice (some ⟨g20,0,none⟩) 3 cc20,.slice (some ⟨q17.heap.size,0,none⟩) 3 3] (q17.alloc (.cells #[.int .i64 6,.int .i64 4,.int .i64 0] 3)) (RetW _ true)):=hid (same3 (HY20.out.alloc _) (HK.blk_new _ _))
                  have HS2:Hid (∀ W,Below q17.heap.size q17 W -> Calls Tryd.prog 27 #[.slice (some ⟨g21,0,none⟩) 3 cc21,.slice (some ⟨W.heap.size,0,none⟩) 3 3] (W.alloc (.cells #[.int .i64 7,.int .i64 7,.int .i64 7] 3)) (RetW _ true)):=hid fun W h => same3 ((own_below9 HY21.out h).alloc _) (HK.blk_new _ _)
                  unfold RetW at HS1 HS2
                  go_wp2_with (first
                   | (go_at_call 27; ((with_reducible refine HS1.out.mono ?_); rintro e w' ⟨rfl,hB1⟩; have hB2:=below_tr (below_alloc q17 _) hB1; have hs2:=HS2.out _ hB2; have HS3:=hid hs2; have HB2:=hid hB2; clear hs2 hB2 hB1))
                   | (go_at_call 27; ((with_reducible refine HS3.out.mono ?_); rintro e w' ⟨rfl,hB3⟩)))
                  go_ret
                  exact ⟨rfl,below_tr (below_tr HBL.out HB2.out) (below_tr (below_alloc _ _) hB3)⟩
end Go.Proofs.YtflmllablfjfeaaDoor
