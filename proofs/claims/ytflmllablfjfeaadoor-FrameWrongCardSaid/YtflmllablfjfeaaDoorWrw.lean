import Derived.Test.YtflmllablfjfeaaDoorWrZ
import Derived.Deep.CutBlock
import Derived.Lib.MinMax
namespace Go.Proofs.YtflmllablfjfeaaDoor
open Go.RowKit Go.HK Go.FR Lib
set_option linter.unusedVariables false
set_option linter.unusedSimpArgs false
set_option linter.unusedSectionVars false
theorem fcs_one:∀ (i:Nat) (a:List Nat),∀ u ∈ fcs i a,u.oneCell' = true
 | i,[],u,h => by simp [fcs] at h
 | i,x :: a,u,h => by
  simp only [fcs,List.mem_append,List.mem_cons,List.not_mem_nil,or_false] at h
  rcases h with (rfl | rfl | rfl) | h
  ·rfl
  ·rfl
  ·rfl
  ·exact fcs_one (i + 1) a u h
theorem own_dr {n:Nat} {rl us:List Nat} {b B g c fg fc:Nat} {W:World} (h:OwM n rl us b B g c fg fc W):OwM n rl us b B g c fg fc W.drew:=⟨h.bx,h.o1,h.o2⟩
theorem cpb_dr {lo B g fg n c fc k:Nat} {z:Int} {c1 c2:Array Value} {W:World} (h:CpB lo B g fg n c fc k z c1 c2 W):CpB lo B g fg n c fc k z c1 c2 W.drew:=⟨h.bx,h.r,h.f,h.lg,h.lf⟩
theorem bl_dw {B:Nat} {a w:World} (h:Below B a w):Below B a w.drew:=⟨h.os,h.tape,h.output,h.size,h.block⟩
set_option maxRecDepth 100000 in
set_option maxHeartbeats 16000000 in
theorem wrong_walk (w:World) (s:Nat) (F:Nat -> Nat) (a0:Option Addr) (ln lc:Nat) (l:List Nat) (wy:Nat) (nn:Int) (hrw:IsRows w) (hs:s < 256) (hF:∀ i,F i < 256) (hl:l.length = ln) (hl2:ln <= 9223372036854775807) (hby:IsBy w a0 l) (hwy:wy < 256) (hnn:-9223372036854775808 <= nn /\ nn <= 9223372036854775807) :
  Calls Tryd.prog 11 #[.int .u8 (s:Int),.agg (sevenV F),.slice a0 ln lc,.int .u8 (wy:Int),.int .i64 nn] w (RetW w true):=by
 obtain ⟨n,hn⟩:∃ n,n = 1 + s % 4:=⟨_,rfl⟩
 have h1:1 <= n:=by omega
 have h4:n <= 4:=by omega
 obtain ⟨rl,hrl⟩:∃ rl,rl = fRel n F n:=⟨_,rfl⟩
 obtain ⟨u4,hu4⟩:∃ u,u = upK rl (F 4) n:=⟨_,rfl⟩
 obtain ⟨u5,hu5⟩:∃ u,u = upK rl (F 5) n:=⟨_,rfl⟩
 obtain ⟨u6,hu6⟩:∃ u,u = upK rl (F 6) n:=⟨_,rfl⟩
 obtain ⟨ff,hff⟩:∃ ff,ff = builtF false l:=⟨_,rfl⟩
 have hlen:rl.length = n:=by rw [hrl]; exact fRel_len n F n
 have HFD:Hid (∀ q,Calls Tryd.prog 13 #[.int .u8 (s:Int),.agg (sevenV F)] q (RetMo q 3 n rl [u4,u5,u6])):=hid fun q => by
  have:=forced_call q s F hs hF
  rw [<- hn,<- hrl,<- hu4,<- hu5,<- hu6] at this
  exact this
 have HAW:Hid (∀ o,Calls Tryd.prog 12 #[] (w.alloc o) (RetW (w.alloc o) true)):=hid fun o => awake_call (w.alloc o) (hrw.below (below_alloc w o))
 unfold RetW at HAW
 have HBU:Hid (∀ q,Below w.heap.size w q -> Calls Tryd.prog 14 #[.int .u8 3,.slice a0 ln lc] q (RetFm q ff)):=hid fun q hB => by
  have:=built_call q 3 a0 ln lc l (by omega) hl hl2 (hby.below hB)
  rw [show decide ((3:Nat) = 4) = false from rfl,<- hff] at this
  exact this
 have hfo:=forced_forc n h1 h4 F
 rw [<- hrl] at hfo
 have hu:∀ m,m = u4 ∨ m = u5 ∨ m = u6 -> m < 2 ^ rl.length /\ UpM rl m:=fun m hm => by
  rcases hm with rfl | rfl | rfl
  ·rw [hu4]; exact ⟨upK_lt hfo.1.ok _ _,upK_up hfo.1 _ _⟩
  ·rw [hu5]; exact ⟨upK_lt hfo.1.ok _ _,upK_up hfo.1 _ _⟩
  ·rw [hu6]; exact ⟨upK_lt hfo.1.ok _ _,upK_up hfo.1 _ _⟩
 have HMOK:Hid ((mdl 3 n rl [u4,u5,u6]).ok = true):=hid (mdl_ok (.inl rfl) hfo.1.ok hlen h1 (by rw [hrl]; exact forced_suits n h1 h4 F) fun m hm => ⟨(hu m hm).1,fun _ => persK_of hfo.1.ok (Nat.lt_of_lt_of_le (hu m hm).1 (pow_le4 (by omega))) (hu m hm).2 _⟩)
 have HPL:Hid (plnF false ff = true /\ depthF ff <= 20 /\ nodesF ff <= 40):=hid (by rw [hff]; exact built_pln false l)
 have HRO:Hid (FrOk rl):=hid hfo.1.ok
 clear hfo hu
 have HRW0:=hid hrw
 have HLEN:=hid hlen
 have HN14:Hid (1 <= n /\ n <= 4):=hid ⟨h1,h4⟩
 have HRL:=hid hrl
 have HUU:Hid (u4 = upK rl (F 4) n /\ u5 = upK rl (F 5) n /\ u6 = upK rl (F 6) n):=hid ⟨hu4,hu5,hu6⟩
 have HFF:=hid hff
 have HWY:=hid hwy
 have HNI:=hid hnn
 clear hn hrl hu4 hu5 hu6 hff hlen hs hF hl hl2 hby hrw hwy hnn h1 h4
 show Calls Tryd.prog 11 #[.int .u8 (s:Int),.agg #[.int .u8 (F 0:Nat),.int .u8 (F 1:Nat),.int .u8 (F 2:Nat),.int .u8 (F 3:Nat),.int .u8 (F 4:Nat),.int .u8 (F 5:Nat),.int .u8 (F 6:Nat)],.slice a0 ln lc,.int .u8 (wy:Int),.int .i64 nn] w _
 go_enter Tryd.func11,Tryd.ntmps11
 go_upto_region 3 with (go_at_call 12; ((with_reducible refine (HAW.out _).mono ?_); rintro e q0 ⟨rfl,hB⟩))
 have hsv:=(hB.block w.heap.size (by simp)).trans (HK.blk_new w _)
 have HSV:=hid hsv
 have HBL:=hid (below_tr (below_alloc w _) hB)
 clear hsv hB
 go_cut [11] from 50 to 52 (fun v11 wx => ∃ B g c fg fc,v11 = .pointer (some ⟨B,0,none⟩) /\ OwM n rl [u4,u5,u6] q0.heap.size B g c fg fc wx /\ Below q0.heap.size q0 wx)
 case first =>
  have cc:=HK.blk_cell HSV.out
  have c0:=cc 0
  have c1:=cc 1
  have c2:=cc 2
  have c3:=cc 3
  have c4:=cc 4
  have c5:=cc 5
  have c6:=cc 6
  clear cc
  have HC:Hid (Calls Tryd.prog 13 #[.int .u8 (s:Int),.agg #[.int .u8 (F 0:Nat),.int .u8 (F 1:Nat),.int .u8 (F 2:Nat),.int .u8 (F 3:Nat),.int .u8 (F 4:Nat),.int .u8 (F 5:Nat),.int .u8 (F 6:Nat)]] q0 _):=hid (HFD.out q0)
  unfold RetMo at HC
  go_wp2_with (go_at_call 13; ((with_reducible refine HC.out.mono ?_); rintro e w' ⟨g,c,fg,fc,rfl,hB,ho1,ho2⟩))
  go_meet
  exact ⟨_,g,c,fg,fc,rfl,⟨HK.blk_new _ _,own_below9 ho1 (below_alloc _ _),own_below9 ho2 (below_alloc _ _)⟩,below_tr hB (below_alloc _ _)⟩
 case rest =>
  obtain ⟨B11,g,c,fg,fc,rfl,hM,hB⟩:=hcut
  have HM:=hid hM
  replace HBL:=hid (below_tr HBL.out hB)
  obtain ⟨q1,hq1⟩:∃ q:World,q = wc:=⟨_,rfl⟩
  subst hq1
  clear hM hB
  go_upto_region 4 with (fail)
  go_cut [12] from 53 to 56 (fun v12 wx => ∃ B,v12 = .pointer (some ⟨B,0,none⟩) /\ FmB wx B ff /\ Below q1.heap.size q1 wx)
  case first =>
   have m0:=HK.blk_cell HM.out.bx 0
   have HC:Hid (Calls Tryd.prog 14 #[.int .u8 3,.slice a0 ln lc] q1 _):=hid (HBU.out q1 HBL.out)
   unfold RetFm at HC
   go_wp2_with (go_at_call 14; ((with_reducible refine HC.out.mono ?_); rintro e w' ⟨⟨x0,x1,x2⟩,⟨y0,y1,y2⟩,rfl,hB,hfm⟩; obtain ⟨oo,ho⟩:∃ o,o = Fm.op (ff):=⟨_,rfl⟩; obtain ⟨nm,hnm⟩:∃ nm,nm = Fm.name (ff):=⟨_,rfl⟩; have HFVV:Hid (IsFv w' (.agg #[.int .u8 (oo:Int),.string nm,.slice x0 x1 x2,.slice y0 y1 y2]) (ff)):=hid (by rw [ho,hnm]; exact of_fv hfm); simp only [fv,SL.v]; rw [<- ho,<- hnm]; clear ho hnm hfm))
   go_meet
   exact ⟨_,rfl,box_f HFVV.out,below_tr hB (below_alloc _ _)⟩
  case rest =>
   obtain ⟨B12,rfl,hnew,hB⟩:=hcut
   have HM:=hid (HM.out.up hB)
   have HF12:=hid hnew
   replace HBL:=hid (below_tr HBL.out hB)
   obtain ⟨q2,hq2⟩:∃ q:World,q = wc:=⟨_,rfl⟩
   subst hq2
   clear hnew hB
   go_upto_region 5 with (fail)
   go_cut [13] from 57 to 58 (fun v13 wx => ∃ B g' c' fg' fc',v13 = .pointer (some ⟨B,0,none⟩) /\ OwM n rl [u4,u5,u6] q2.heap.size B g' c' fg' fc' wx /\ q2.heap.size <= B /\ Below q2.heap.size q2 wx)
   case first =>
    have m0:=HK.blk_cell HM.out.bx 0
    have m1:=HK.blk_cell HM.out.bx 1
    have m2:=HK.blk_cell HM.out.bx 2
    have m3:=HK.blk_cell HM.out.bx 3
    have m4:=HK.blk_cell HM.out.bx 4
    have m5:=HK.blk_cell HM.out.bx 5
    have m6:=HK.blk_cell HM.out.bx 6
    have hq:=copyM_call q2 3 n 3 g 0 c fg 0 fc rl (fcs 0 [u4,u5,u6]) HN14.out.1 (by omega) HN14.out.2 (by omega) (isR_own HM.out.o1) HLEN.out rfl (fun j u hj => by rw [Nat.zero_add]; exact (HM.out.o2.cellAt j (by have:=(List.getElem?_eq_some_iff.1 hj).1; exact this)).trans hj) (fcs_one _ _)
    simp only [show ((3:Nat):Int) = 3 from rfl] at hq
    have HC:=hid hq
    clear hq
    go_wp2_with (go_at_call 36; ((with_reducible refine HC.out.mono ?_); rintro e w' ⟨g1,c1,g2,c2,rfl,hB,ho1,ho2⟩))
    go_meet
    exact ⟨_,g1,c1,g2,c2,rfl,⟨HK.blk_new _ _,own_below9 ho1 (below_alloc _ _),own_below9 ho2 (below_alloc _ _)⟩,hB.size,below_tr hB (below_alloc _ _)⟩
   case rest =>
    obtain ⟨B13,g13,c13,fg13,fc13,rfl,hM13,hge,hB⟩:=hcut
    have HC13:=hid hM13
    have HGE:=hid hge
    have HB3:=hid hB
    obtain ⟨q3,hq3⟩:∃ q:World,q = wc:=⟨_,rfl⟩
    subst hq3
    clear hM13 hge hB
    obtain ⟨k,ht,hk8⟩:∃ k:Int,(wy:Int).tmod 8 = k /\ (k = 0 ∨ k = 1 ∨ k = 2 ∨ k = 3 ∨ k = 4 ∨ k = 5 ∨ k = 6 ∨ k = 7):=⟨_,rfl,by rw [Int.tmod_eq_emod_of_nonneg (by omega)]; omega⟩
    have HK8:=hid hk8
    clear hk8
    go_upto_block 0 with (fail)
    clear ht
    go_cut [] from 61 to 121 (fun wx => BadM wx B13 /\ Below q2.heap.size q2 wx)
    case first =>
     have lB:=HGE.out
     have lg:=(own_blk9 HC13.out.o1 rfl).1
     have lf:=(own_blk9 HC13.out.o2 rfl).1
     have HLB:=hid lB
     have HLG:=hid lg
     have HLF:=hid lf
     obtain ⟨c1,c2,hcp,hr,hf⟩:=HC13.out.cp
     have HCP:=hid hcp
     obtain ⟨z9,f0,f1,f2,f3,f4,f5,f6,f7,f8⟩:=row_fs hf
     have hr':=fun (i:Nat) (h:i < n) => hr i _ (by unfold ints; rw [List.getElem?_map,List.getElem?_eq_getElem (show i < rl.length by rw [HLEN.out]; exact h)]; rfl)
     have b0:=HK.blk_cell HCP.out.bx
     have c0:=b0 0
     have d1:=b0 1
     have d2:=b0 2
     have d4:=b0 4
     have k0:=HK.blk_frozen HCP.out.bx 0
     have k1:=HK.blk_frozen HCP.out.bx 1
     have fR:=fun i => HK.blk_frozen HCP.out.r i
     have fF:=fun i => HK.blk_frozen HCP.out.f i
     have rc:=HK.blk_cell HCP.out.r
     have fc:=HK.blk_cell HCP.out.f
     have a0:=(fc 0).trans f0
     have a2:=(fc 2).trans f2
     have a3:=(fc 3).trans f3
     have a4:=(fc 4).trans f4
     have a8:=(fc 8).trans f8
     have r0:=(rc 0).trans (hr' 0 (by have:=HN14.out; omega))
     have r1:=(rc (n - 1)).trans (hr' (n - 1) (by have:=HN14.out; omega))
     have m1:=HK.blk_cell (HM.out.up HB3.out).bx 1
     have p0:0 < n:=HN14.out.1
     have p1:((n:Int) - 1) = ((n - 1:Nat):Int):=by omega
     have p2:((n - 1:Nat):Int) < (n:Int):=by omega
     have p3:IntKind.i64.wrap (((n - 1:Nat):Int)) = ((n - 1:Nat):Int):=IntWalk.i64_in _ (by have:=HN14.out; omega)
     clear b0 f0 f1 f2 f3 f4 f5 f6 f7 f8 z9 rc fc hr hr' hf hcp lB lg lf
     obtain ⟨T,hT⟩:∃ T:Int,T = ((2 ^ n:Nat):Int):=⟨_,rfl⟩
     have HT:=hid hT
     have HSH:Hid (IntKind.i64.wrap (2 ^ min n 64) = T):=hid (by rw [hT]; have:=HN14.out; rcases (by omega:n = 1 ∨ n = 2 ∨ n = 3 ∨ n = 4) with h | h | h | h <;> rw [h] <;> decide +kernel)
     clear hT
     rcases HK8.out with rfl | rfl | rfl | rfl | rfl | rfl | rfl | rfl
     ·go_wp2_with (fail)
      go_meet
      exact ⟨wr0 HC13.out HLEN.out HN14.out.2 nn,(HB3.out).setCell (p:=⟨B13,1,none⟩) HLB.out _⟩
     ·go_upto_region 10 with (fail)
      refine Go.RE.wp_region_eachg [68,69,70,71,72,73,74,75] (fun L x W => (Below q2.heap.size q2 W /\ (∃ k1 k2,CpB q2.heap.size B13 g13 fg13 n c13 fc13 3 (n:Int) k1 k2 W) /\ (L 8 = false -> OwM n rl [u4,u5,u6] q2.heap.size B13 g13 c13 fg13 fc13 W)) /\ (L 0 = true -> x 68 = .pointer (some ⟨B13,2,none⟩)) /\ (L 1 = true -> x 69 = .slice (some ⟨g13,0,none⟩) n c13) /\ (L 2 = true -> x 70 = .int .i64 nn) /\ (L 3 = true -> x 71 = .pointer (some ⟨B11,1,none⟩)) /\ (L 4 = true -> x 72 = .int .i64 (n:Int)) /\ (L 5 = true -> x 73 = .int .i64 T) /\ (L 6 = true -> x 74 = .int .i64 (max nn T)) /\ (L 7 = true -> x 75 = .pointer (some ⟨g13,0,none⟩)) /\ (L 8 = true -> BadM W B13)) (by kernel_rfl) (by kernel_rfl) (by kernel_rfl) ?_ ((Go.RE.Each.cons ?_ (Go.RE.Each.cons ?_ (Go.RE.Each.cons ?_ (Go.RE.Each.cons ?_ (Go.RE.Each.cons ?_ (Go.RE.Each.cons ?_ (Go.RE.Each.cons ?_ (Go.RE.Each.cons ?_ (Go.RE.Each.cons ?_ Go.RE.Each.nil)))))))))) ?_
      ·exact fun x => ⟨⟨bl_dw HB3.out,⟨_,_,cpb_dr HCP.out⟩,fun _ => own_dr HC13.out⟩,nofun,nofun,nofun,nofun,nofun,nofun,nofun,nofun,nofun⟩
      ·intro L x a wR K hL hd hf hx hΦ hK
       obtain ⟨hI,f0,f1,f2,f3,f4,f5,f6,f7,f8⟩:=hΦ
       refine ⟨fun _ => ?_,fun h => absurd h (by rw [Go.RE.wanted_none rfl]; decide)⟩
       have e13:a.tmps[13]? = some (.pointer (some ⟨B13,0,none⟩)):=hf 13 (of_decide_eq_true (by kernel_rfl))
       clear hf hx hd
       go_simp
       refine hK _ _ ?_
       exact ⟨hI,fun _ => rfl,f1,f2,f3,f4,f5,f6,f7,f8⟩
      ·intro L x a wR K hL hd hf hx hΦ hK
       obtain ⟨hI,f0,f1,f2,f3,f4,f5,f6,f7,f8⟩:=hΦ
       refine ⟨fun _ => ?_,fun h => absurd h (by rw [Go.RE.wanted_none rfl]; decide)⟩
       have d0:=f0 (hd 0 (by kernel_rfl))
       have e68:a.tmps[68]? = some (x 68):=hx 0 _ 68 rfl rfl (hd 0 (by kernel_rfl))
       rw [d0] at e68
       clear hf hx hd
       obtain ⟨k1,k2,hcp⟩:=hI.2.1
       have b0:=HK.blk_cell hcp.bx 2
       clear hcp
       go_simp
       refine hK _ _ ?_
       exact ⟨hI,f0,fun _ => rfl,f2,f3,f4,f5,f6,f7,f8⟩
      ·intro L x a wR K hL hd hf hx hΦ hK
       obtain ⟨hI,f0,f1,f2,f3,f4,f5,f6,f7,f8⟩:=hΦ
       refine ⟨fun _ => ?_,fun h => absurd h (by rw [Go.RE.wanted_none rfl]; decide)⟩
       have e4:a.tmps[4]? = some (.int .i64 nn):=hf 4 (of_decide_eq_true (by kernel_rfl))
       clear hf hx hd
       go_simp
       refine hK _ _ ?_
       exact ⟨hI,f0,f1,fun _ => rfl,f3,f4,f5,f6,f7,f8⟩
      ·intro L x a wR K hL hd hf hx hΦ hK
       obtain ⟨hI,f0,f1,f2,f3,f4,f5,f6,f7,f8⟩:=hΦ
       refine ⟨fun _ => ?_,fun h => absurd h (by rw [Go.RE.wanted_none rfl]; decide)⟩
       have e11:a.tmps[11]? = some (.pointer (some ⟨B11,0,none⟩)):=hf 11 (of_decide_eq_true (by kernel_rfl))
       clear hf hx hd
       go_simp
       refine hK _ _ ?_
       exact ⟨hI,f0,f1,f2,fun _ => rfl,f4,f5,f6,f7,f8⟩
      ·intro L x a wR K hL hd hf hx hΦ hK
       obtain ⟨hI,f0,f1,f2,f3,f4,f5,f6,f7,f8⟩:=hΦ
       refine ⟨fun _ => ?_,fun h => absurd h (by rw [Go.RE.wanted_none rfl]; decide)⟩
       have d3:=f3 (hd 3 (by kernel_rfl))
       have e71:a.tmps[71]? = some (x 71):=hx 3 _ 71 rfl rfl (hd 3 (by kernel_rfl))
       rw [d3] at e71
       clear hf hx hd
       have b0:=HK.blk_cell (HM.out.up hI.1).bx 1
       go_simp
       refine hK _ _ ?_
       exact ⟨hI,f0,f1,f2,f3,fun _ => rfl,f5,f6,f7,f8⟩
      ·intro L x a wR K hL hd hf hx hΦ hK
       obtain ⟨hI,f0,f1,f2,f3,f4,f5,f6,f7,f8⟩:=hΦ
       refine ⟨fun _ => ?_,fun h => absurd h (by rw [Go.RE.wanted_none rfl]; decide)⟩
       have d4:=f4 (hd 4 (by kernel_rfl))
       have e72:a.tmps[72]? = some (x 72):=hx 4 _ 72 rfl rfl (hd 4 (by kernel_rfl))
       rw [d4] at e72
       clear hf hx hd
       have hs:=HSH.out
       go_simp
       refine hK _ _ ?_
       exact ⟨hI,f0,f1,f2,f3,f4,fun _ => rfl,f6,f7,f8⟩
      ·intro L x a wR K hL hd hf hx hΦ hK
       obtain ⟨hI,f0,f1,f2,f3,f4,f5,f6,f7,f8⟩:=hΦ
       refine ⟨fun _ => ?_,fun h => absurd h (by rw [Go.RE.wanted_none rfl]; decide)⟩
       have d2:=f2 (hd 2 (by kernel_rfl))
       have e70:a.tmps[70]? = some (x 70):=hx 2 _ 70 rfl rfl (hd 2 (by kernel_rfl))
       rw [d2] at e70
       have d5:=f5 (hd 5 (by kernel_rfl))
       have e73:a.tmps[73]? = some (x 73):=hx 5 _ 73 rfl rfl (hd 5 (by kernel_rfl))
       rw [d5] at e73
       clear hf hx hd
       go_simp
       refine hK _ _ ?_
       exact ⟨hI,f0,f1,f2,f3,f4,f5,fun _ => rfl,f7,f8⟩
      ·intro L x a wR K hL hd hf hx hΦ hK
       obtain ⟨hI,f0,f1,f2,f3,f4,f5,f6,f7,f8⟩:=hΦ
       refine ⟨fun _ => ?_,fun h => absurd h (by rw [Go.RE.wanted_none rfl]; decide)⟩
       have d1:=f1 (hd 1 (by kernel_rfl))
       have e69:a.tmps[69]? = some (x 69):=hx 1 _ 69 rfl rfl (hd 1 (by kernel_rfl))
       rw [d1] at e69
       clear hf hx hd
       go_simp
       refine hK _ _ ?_
       exact ⟨hI,f0,f1,f2,f3,f4,f5,f6,fun _ => rfl,f8⟩
      ·intro L x a wR K hL hd hf hx hΦ hK
       obtain ⟨hI,f0,f1,f2,f3,f4,f5,f6,f7,f8⟩:=hΦ
       refine ⟨fun _ => ?_,fun h => absurd h (by rw [Go.RE.wanted_none rfl]; decide)⟩
       have d7:=f7 (hd 7 (by kernel_rfl))
       have e75:a.tmps[75]? = some (x 75):=hx 7 _ 75 rfl rfl (hd 7 (by kernel_rfl))
       rw [d7] at e75
       have d6:=f6 (hd 6 (by kernel_rfl))
       have e74:a.tmps[74]? = some (x 74):=hx 6 _ 74 rfl rfl (hd 6 (by kernel_rfl))
       rw [d6] at e74
       clear hf hx hd
       obtain ⟨k1,k2,hcp,hr,hf⟩:=(hI.2.2 hL).cp
       have r0:=(HK.blk_cell hcp.r 0).trans (hr 0 _ (by unfold ints; rw [List.getElem?_map,List.getElem?_eq_getElem (show 0 < rl.length by have:=HLEN.out; have:=HN14.out; omega)]; rfl))
       have f0':=HK.blk_frozen hcp.r 0
       clear hr hf hcp
       go_simp
       refine hK undef _ ?_
       exact ⟨⟨hI.1.setCell (p:=⟨g13,0,none⟩) HLG.out _,(by obtain ⟨k1,k2,hcp⟩:=hI.2.1; exact ⟨_,_,hcp.setR 0 _⟩),fun h => by cases h⟩,f0,f1,f2,f3,f4,f5,f6,f7,fun _ => (by have h9:=wr1 (hI.2.2 hL) HLEN.out HN14.out.1 nn; rw [<- HT.out] at h9; exact h9)⟩
      ·rintro x W ⟨hI,f0,f1,f2,f3,f4,f5,f6,f7,f8⟩
       simp only [Exit.inBlock,Exit.then]
       go_step
       go_meet
       exact ⟨f8 rfl,hI.1⟩
     ·go_wp2_with (fail)
      go_meet
      exact ⟨wr2 HC13.out HLEN.out HN14.out.1 HRO.out nn,(HB3.out).setCell (p:=⟨g13,n - 1,none⟩) HLG.out _⟩
     ·go_wp2_with (fail)
      go_meet
      exact ⟨wr3 HC13.out HLEN.out nn,(HB3.out).setCell (p:=⟨fg13,2,none⟩) HLF.out _⟩
     ·go_upto_region 16 with (fail)
      refine Go.RE.wp_region_eachg [96,97,98,99,100,101,102,103,104] (fun L x W => (Below q2.heap.size q2 W /\ (∃ k1 k2,CpB q2.heap.size B13 g13 fg13 n c13 fc13 3 (n:Int) k1 k2 W) /\ (L 9 = false -> OwM n rl [u4,u5,u6] q2.heap.size B13 g13 c13 fg13 fc13 W)) /\ (L 0 = true -> x 96 = .pointer (some ⟨B13,4,none⟩)) /\ (L 1 = true -> x 97 = .slice (some ⟨fg13,0,none⟩) 3 fc13) /\ (L 2 = true -> x 98 = .int .i64 nn) /\ (L 3 = true -> x 99 = .pointer (some ⟨B11,1,none⟩)) /\ (L 4 = true -> x 100 = .int .i64 (n:Int)) /\ (L 5 = true -> x 101 = .int .i64 T) /\ (L 6 = true -> x 102 = .int .i64 (max nn T)) /\ (L 7 = true -> x 103 = .pointer (some ⟨fg13,6,none⟩)) /\ (L 8 = true -> x 104 = .pointer (some ⟨fg13,8,none⟩)) /\ (L 9 = true -> BadM W B13)) (by kernel_rfl) (by kernel_rfl) (by kernel_rfl) ?_ ((Go.RE.Each.cons ?_ (Go.RE.Each.cons ?_ (Go.RE.Each.cons ?_ (Go.RE.Each.cons ?_ (Go.RE.Each.cons ?_ (Go.RE.Each.cons ?_ (Go.RE.Each.cons ?_ (Go.RE.Each.cons ?_ (Go.RE.Each.cons ?_ (Go.RE.Each.cons ?_ Go.RE.Each.nil))))))))))) ?_
      ·exact fun x => ⟨⟨bl_dw HB3.out,⟨_,_,cpb_dr HCP.out⟩,fun _ => own_dr HC13.out⟩,nofun,nofun,nofun,nofun,nofun,nofun,nofun,nofun,nofun,nofun⟩
      ·intro L x a wR K hL hd hf hx hΦ hK
       obtain ⟨hI,f0,f1,f2,f3,f4,f5,f6,f7,f8,f9⟩:=hΦ
       refine ⟨fun _ => ?_,fun h => absurd h (by rw [Go.RE.wanted_none rfl]; decide)⟩
       have e13:a.tmps[13]? = some (.pointer (some ⟨B13,0,none⟩)):=hf 13 (of_decide_eq_true (by kernel_rfl))
       clear hf hx hd
       go_simp
       refine hK _ _ ?_
       exact ⟨hI,fun _ => rfl,f1,f2,f3,f4,f5,f6,f7,f8,f9⟩
      ·intro L x a wR K hL hd hf hx hΦ hK
       obtain ⟨hI,f0,f1,f2,f3,f4,f5,f6,f7,f8,f9⟩:=hΦ
       refine ⟨fun _ => ?_,fun h => absurd h (by rw [Go.RE.wanted_none rfl]; decide)⟩
       have d0:=f0 (hd 0 (by kernel_rfl))
       have e96:a.tmps[96]? = some (x 96):=hx 0 _ 96 rfl rfl (hd 0 (by kernel_rfl))
       rw [d0] at e96
       clear hf hx hd
       obtain ⟨k1,k2,hcp⟩:=hI.2.1
       have b0:=HK.blk_cell hcp.bx 4
       clear hcp
       go_simp
       refine hK _ _ ?_
       exact ⟨hI,f0,fun _ => rfl,f2,f3,f4,f5,f6,f7,f8,f9⟩
      ·intro L x a wR K hL hd hf hx hΦ hK
       obtain ⟨hI,f0,f1,f2,f3,f4,f5,f6,f7,f8,f9⟩:=hΦ
       refine ⟨fun _ => ?_,fun h => absurd h (by rw [Go.RE.wanted_none rfl]; decide)⟩
       have e4:a.tmps[4]? = some (.int .i64 nn):=hf 4 (of_decide_eq_true (by kernel_rfl))
       clear hf hx hd
       go_simp
       refine hK _ _ ?_
       exact ⟨hI,f0,f1,fun _ => rfl,f3,f4,f5,f6,f7,f8,f9⟩
      ·intro L x a wR K hL hd hf hx hΦ hK
       obtain ⟨hI,f0,f1,f2,f3,f4,f5,f6,f7,f8,f9⟩:=hΦ
       refine ⟨fun _ => ?_,fun h => absurd h (by rw [Go.RE.wanted_none rfl]; decide)⟩
       have e11:a.tmps[11]? = some (.pointer (some ⟨B11,0,none⟩)):=hf 11 (of_decide_eq_true (by kernel_rfl))
       clear hf hx hd
       go_simp
       refine hK _ _ ?_
       exact ⟨hI,f0,f1,f2,fun _ => rfl,f4,f5,f6,f7,f8,f9⟩
      ·intro L x a wR K hL hd hf hx hΦ hK
       obtain ⟨hI,f0,f1,f2,f3,f4,f5,f6,f7,f8,f9⟩:=hΦ
       refine ⟨fun _ => ?_,fun h => absurd h (by rw [Go.RE.wanted_none rfl]; decide)⟩
       have d3:=f3 (hd 3 (by kernel_rfl))
       have e99:a.tmps[99]? = some (x 99):=hx 3 _ 99 rfl rfl (hd 3 (by kernel_rfl))
       rw [d3] at e99
       clear hf hx hd
       have b0:=HK.blk_cell (HM.out.up hI.1).bx 1
       go_simp
       refine hK _ _ ?_
       exact ⟨hI,f0,f1,f2,f3,fun _ => rfl,f5,f6,f7,f8,f9⟩
      ·intro L x a wR K hL hd hf hx hΦ hK
       obtain ⟨hI,f0,f1,f2,f3,f4,f5,f6,f7,f8,f9⟩:=hΦ
       refine ⟨fun _ => ?_,fun h => absurd h (by rw [Go.RE.wanted_none rfl]; decide)⟩
       have d4:=f4 (hd 4 (by kernel_rfl))
       have e100:a.tmps[100]? = some (x 100):=hx 4 _ 100 rfl rfl (hd 4 (by kernel_rfl))
       rw [d4] at e100
       clear hf hx hd
       have hs:=HSH.out
       go_simp
       refine hK _ _ ?_
       exact ⟨hI,f0,f1,f2,f3,f4,fun _ => rfl,f6,f7,f8,f9⟩
      ·intro L x a wR K hL hd hf hx hΦ hK
       obtain ⟨hI,f0,f1,f2,f3,f4,f5,f6,f7,f8,f9⟩:=hΦ
       refine ⟨fun _ => ?_,fun h => absurd h (by rw [Go.RE.wanted_none rfl]; decide)⟩
       have d2:=f2 (hd 2 (by kernel_rfl))
       have e98:a.tmps[98]? = some (x 98):=hx 2 _ 98 rfl rfl (hd 2 (by kernel_rfl))
       rw [d2] at e98
       have d5:=f5 (hd 5 (by kernel_rfl))
       have e101:a.tmps[101]? = some (x 101):=hx 5 _ 101 rfl rfl (hd 5 (by kernel_rfl))
       rw [d5] at e101
       clear hf hx hd
       go_simp
       refine hK _ _ ?_
       exact ⟨hI,f0,f1,f2,f3,f4,f5,fun _ => rfl,f7,f8,f9⟩
      ·intro L x a wR K hL hd hf hx hΦ hK
       obtain ⟨hI,f0,f1,f2,f3,f4,f5,f6,f7,f8,f9⟩:=hΦ
       refine ⟨fun _ => ?_,fun h => absurd h (by rw [Go.RE.wanted_none rfl]; decide)⟩
       have d1:=f1 (hd 1 (by kernel_rfl))
       have e97:a.tmps[97]? = some (x 97):=hx 1 _ 97 rfl rfl (hd 1 (by kernel_rfl))
       rw [d1] at e97
       clear hf hx hd
       go_simp
       refine hK _ _ ?_
       exact ⟨hI,f0,f1,f2,f3,f4,f5,f6,fun _ => rfl,f8,f9⟩
      ·intro L x a wR K hL hd hf hx hΦ hK
       obtain ⟨hI,f0,f1,f2,f3,f4,f5,f6,f7,f8,f9⟩:=hΦ
       refine ⟨fun _ => ?_,fun h => absurd h (by rw [Go.RE.wanted_none rfl]; decide)⟩
       have d7:=f7 (hd 7 (by kernel_rfl))
       have e103:a.tmps[103]? = some (x 103):=hx 7 _ 103 rfl rfl (hd 7 (by kernel_rfl))
       rw [d7] at e103
       clear hf hx hd
       go_simp
       refine hK _ _ ?_
       exact ⟨hI,f0,f1,f2,f3,f4,f5,f6,f7,fun _ => rfl,f9⟩
      ·intro L x a wR K hL hd hf hx hΦ hK
       obtain ⟨hI,f0,f1,f2,f3,f4,f5,f6,f7,f8,f9⟩:=hΦ
       refine ⟨fun _ => ?_,fun h => absurd h (by rw [Go.RE.wanted_none rfl]; decide)⟩
       have d8:=f8 (hd 8 (by kernel_rfl))
       have e104:a.tmps[104]? = some (x 104):=hx 8 _ 104 rfl rfl (hd 8 (by kernel_rfl))
       rw [d8] at e104
       have d6:=f6 (hd 6 (by kernel_rfl))
       have e102:a.tmps[102]? = some (x 102):=hx 6 _ 102 rfl rfl (hd 6 (by kernel_rfl))
       rw [d6] at e102
       clear hf hx hd
       obtain ⟨k1,k2,hcp,hr,hf⟩:=(hI.2.2 hL).cp
       have r0:=(HK.blk_cell hcp.f 8).trans (hf 8 _ rfl)
       have f0':=HK.blk_frozen hcp.f 8
       clear hr hf hcp
       go_simp
       refine hK undef _ ?_
       exact ⟨⟨hI.1.setCell (p:=⟨fg13,8,none⟩) HLF.out _,(by obtain ⟨k1,k2,hcp⟩:=hI.2.1; exact ⟨_,_,hcp.setF 8 _⟩),fun h => by cases h⟩,f0,f1,f2,f3,f4,f5,f6,f7,f8,fun _ => (by have h9:=wr4 (hI.2.2 hL) HLEN.out nn; rw [<- HT.out] at h9; exact h9)⟩
      ·rintro x W ⟨hI,f0,f1,f2,f3,f4,f5,f6,f7,f8,f9⟩
       simp only [Exit.inBlock,Exit.then]
       go_step
       go_meet
       exact ⟨f9 rfl,hI.1⟩
     ·go_wp2_with (fail)
      go_meet
      exact ⟨wr5 HC13.out HLEN.out,(HB3.out).setCell (p:=⟨fg13,3,none⟩) HLF.out _⟩
     ·go_wp2_with (fail)
      go_meet
      exact ⟨wr6 HC13.out HLEN.out nn,(HB3.out).setCell (p:=⟨fg13,4,none⟩) HLF.out _⟩
     ·go_wp2_with (fail)
      go_meet
      exact ⟨wr7 HC13.out HLEN.out,(HB3.out).setCell (p:=⟨B13,0,none⟩) HLB.out _⟩
    case rest =>
     obtain ⟨⟨mb,hmb,hno⟩,hB⟩:=hcut
     have HM13:=hid hmb
     have HNO:=hid hno
     have HM11:=hid ((HM.out.up hB).mb HLEN.out)
     have HF12:=hid (HF12.out.below hB)
     have HRW:=hid (HRW0.out.below (below_tr HBL.out hB))
     replace HBL:=hid (below_tr HBL.out hB)
     obtain ⟨q4,hq4⟩:∃ q:World,q = wc:=⟨_,rfl⟩
     subst hq4
     clear hmb hno hB HM HC13 HGE HB3
     go_upto_region 23 with (fail)
     go_cut [14,15] from 122 to 127 (fun v14 v15 wx => v15 = .int .i64 2 /\ Below q4.heap.size q4 wx)
     case first =>
      obtain ⟨o,nm,a0,a1,a2,s0,s1,s2,hb,h2,h3,h4⟩:=HF12.out
      have cc:=HK.blk_cell hb
      have c0:=cc 0
      have c1:=cc 1
      have c2:=cc 2
      have c3:=cc 3
      clear cc
      obtain ⟨mk',mz',lp',r0',r1',r2',t0',t1',t2',u0',u1',u2',b0',b1',b2',hb',h2',h3',h5',h4'⟩:=HM13.out
      have cc':=HK.blk_cell hb'
      have c0':=cc' 0
      have c1':=cc' 1
      have c2':=cc' 2
      have c3':=cc' 3
      have c4':=cc' 4
      have c5':=cc' 5
      have c6':=cc' 6
      clear cc'
      have hc:=at_erv (W:=q4) ⟨mk',mz',lp',r0',r1',r2',t0',t1',t2',u0',u1',u2',b0',b1',b2',rfl,h2',h3',h5',h4'⟩ ⟨o,nm,a0,a1,a2,s0,s1,s2,rfl,h2,h3,h4⟩ HRW.out (by have:=HPL.out; omega) (.inl HNO.out)
      unfold RetEr at hc
      have HC:=hid hc
      clear hc
      go_wp2_with (go_at_call 16; ((with_reducible refine HC.out.mono ?_); rintro e w' ⟨rfl,hB⟩))
      go_meet
      exact ⟨rfl,hB⟩
     case rest =>
      obtain ⟨rfl,hB⟩:=hcut
      replace HM13:=hid (HM13.out.below hB)
      replace HM11:=hid (HM11.out.below hB)
      replace HF12:=hid (HF12.out.below hB)
      replace HRW:=hid (HRW.out.below hB)
      replace HBL:=hid (below_tr HBL.out hB)
      obtain ⟨q5,hq5⟩:∃ q:World,q = wc:=⟨_,rfl⟩
      subst hq5
      clear hB
      go_upto_region 24 with (fail)
      go_cut [16,17] from 128 to 133 (fun v16 v17 wx => v17 = .int .i64 2 /\ Below q5.heap.size q5 wx)
      case first =>
       obtain ⟨o,nm,a0,a1,a2,s0,s1,s2,hb,h2,h3,h4⟩:=HF12.out
       have cc:=HK.blk_cell hb
       have c0:=cc 0
       have c1:=cc 1
       have c2:=cc 2
       have c3:=cc 3
       clear cc
       obtain ⟨mk',mz',lp',r0',r1',r2',t0',t1',t2',u0',u1',u2',b0',b1',b2',hb',h2',h3',h5',h4'⟩:=HM13.out
       have cc':=HK.blk_cell hb'
       have c0':=cc' 0
       have c1':=cc' 1
       have c2':=cc' 2
       have c3':=cc' 3
       have c4':=cc' 4
       have c5':=cc' 5
       have c6':=cc' 6
       clear cc'
       have hc:=holds_erv (W:=q5) ⟨mk',mz',lp',r0',r1',r2',t0',t1',t2',u0',u1',u2',b0',b1',b2',rfl,h2',h3',h5',h4'⟩ ⟨o,nm,a0,a1,a2,s0,s1,s2,rfl,h2,h3,h4⟩ HRW.out (by have:=HPL.out; omega) (.inl HNO.out)
       unfold RetEr at hc
       have HC:=hid hc
       clear hc
       go_wp2_with (go_at_call 17; ((with_reducible refine HC.out.mono ?_); rintro e w' ⟨rfl,hB⟩))
       go_meet
       exact ⟨rfl,hB⟩
      case rest =>
       obtain ⟨rfl,hB⟩:=hcut
       replace HM13:=hid (HM13.out.below hB)
       replace HM11:=hid (HM11.out.below hB)
       replace HF12:=hid (HF12.out.below hB)
       replace HRW:=hid (HRW.out.below hB)
       replace HBL:=hid (below_tr HBL.out hB)
       obtain ⟨q6,hq6⟩:∃ q:World,q = wc:=⟨_,rfl⟩
       subst hq6
       clear hB
       go_upto_region 25 with (fail)
       go_cut [18,19] from 134 to 138 (fun v18 v19 wx => v19 = .int .i64 2 /\ Below q6.heap.size q6 wx)
       case first =>
        obtain ⟨mk',mz',lp',r0',r1',r2',t0',t1',t2',u0',u1',u2',b0',b1',b2',hb',h2',h3',h5',h4'⟩:=HM13.out
        have cc':=HK.blk_cell hb'
        have c0':=cc' 0
        have c1':=cc' 1
        have c2':=cc' 2
        have c3':=cc' 3
        have c4':=cc' 4
        have c5':=cc' 5
        have c6':=cc' 6
        clear cc'
        have hc:=part_erv (W:=q6) ⟨mk',mz',lp',r0',r1',r2',t0',t1',t2',u0',u1',u2',b0',b1',b2',rfl,h2',h3',h5',h4'⟩ HNO.out 0
        unfold RetEr at hc
        have HC:=hid hc
        clear hc
        go_wp2_with (go_at_call 30; ((with_reducible refine HC.out.mono ?_); rintro e w' ⟨rfl,hB⟩))
        go_meet
        exact ⟨rfl,below_tr hB (below_alloc _ _)⟩
       case rest =>
        obtain ⟨rfl,hB⟩:=hcut
        replace HM13:=hid (HM13.out.below hB)
        replace HM11:=hid (HM11.out.below hB)
        replace HF12:=hid (HF12.out.below hB)
        replace HRW:=hid (HRW.out.below hB)
        replace HBL:=hid (below_tr HBL.out hB)
        obtain ⟨q7,hq7⟩:∃ q:World,q = wc:=⟨_,rfl⟩
        subst hq7
        clear hB
        go_upto_region 26 with (fail)
        go_cut [20,21] from 139 to 143 (fun v20 v21 wx => v21 = .int .i64 2 /\ Below q7.heap.size q7 wx)
        case first =>
         obtain ⟨mk',mz',lp',r0',r1',r2',t0',t1',t2',u0',u1',u2',b0',b1',b2',hb',h2',h3',h5',h4'⟩:=HM13.out
         have cc':=HK.blk_cell hb'
         have c0':=cc' 0
         have c1':=cc' 1
         have c2':=cc' 2
         have c3':=cc' 3
         have c4':=cc' 4
         have c5':=cc' 5
         have c6':=cc' 6
         clear cc'
         have hc:Calls Tryd.prog 34 #[_,.int .u8 0] q7 _:=number_erv (W:=q7) ⟨mk',mz',lp',r0',r1',r2',t0',t1',t2',u0',u1',u2',b0',b1',b2',rfl,h2',h3',h5',h4'⟩ HNO.out 0
         unfold RetEr at hc
         have HC:=hid hc
         clear hc
         go_wp2_with (go_at_call 34; ((with_reducible refine HC.out.mono ?_); rintro e w' ⟨rfl,hB⟩))
         go_meet
         exact ⟨rfl,hB⟩
        case rest =>
         obtain ⟨rfl,hB⟩:=hcut
         replace HM13:=hid (HM13.out.below hB)
         replace HM11:=hid (HM11.out.below hB)
         replace HF12:=hid (HF12.out.below hB)
         replace HRW:=hid (HRW.out.below hB)
         replace HBL:=hid (below_tr HBL.out hB)
         obtain ⟨q8,hq8⟩:∃ q:World,q = wc:=⟨_,rfl⟩
         subst hq8
         clear hB
         go_upto_region 27 with (fail)
         go_cut [22,23] from 144 to 151 (fun v22 v23 wx => v23 = .int .i64 2 /\ Below q8.heap.size q8 wx)
         case first =>
          refine Go.RE.wp_region_eachg [145,146,147,148,149,144,150,151,22,23] (fun L x W => (Below q8.heap.size q8 W) /\ (L 0 = true -> IsMv W (x 145) (mdl 3 n rl [u4,u5,u6])) /\ (L 1 = true -> IsFv W (x 146) (ff)) /\ (L 2 = true -> IsFsV W (x 147) [ff]) /\ (L 3 = true -> IsFv W (x 148) (.mk 10 ⟨#[]⟩ [] [ff])) /\ (L 4 = true -> x 149 = .tuple #[.int .i64 0,.int .i64 2]) /\ (L 5 = true -> x 144 = .tuple #[.int .i64 0,.int .i64 2]) /\ (L 6 = true -> x 150 = .int .i64 0) /\ (L 7 = true -> x 151 = .int .i64 2) /\ (L 8 = true -> x 22 = .int .i64 0) /\ (L 9 = true -> x 23 = .int .i64 2)) (by kernel_rfl) (by kernel_rfl) (by kernel_rfl) ?_ ((Go.RE.Each.cons ?_ (Go.RE.Each.cons ?_ (Go.RE.Each.cons ?_ (Go.RE.Each.cons ?_ (Go.RE.Each.cons ?_ (Go.RE.Each.cons ?_ (Go.RE.Each.cons ?_ (Go.RE.Each.cons ?_ (Go.RE.Each.cons ?_ (Go.RE.Each.cons ?_ Go.RE.Each.nil))))))))))) ?_
          ·exact fun x => ⟨bl_dw (Below.refl _ _),nofun,nofun,nofun,nofun,nofun,nofun,nofun,nofun,nofun,nofun⟩
          ·intro L x a wR K hL hd hf hx hΦ hK
           obtain ⟨hI,f0,f1,f2,f3,f4,f5,f6,f7,f8,f9⟩:=hΦ
           refine ⟨fun _ => ?_,fun h => absurd h (by rw [Go.RE.wanted_none rfl]; decide)⟩
           have e11:a.tmps[11]? = some (.pointer (some ⟨B11,0,none⟩)):=hf 11 (of_decide_eq_true (by kernel_rfl))
           clear hf hx hd
           obtain ⟨mk,mz,lp,r0,r1,r2,t0,t1,t2,u0,u1,u2,b0,b1,b2,hb,h2,h3,h5,h4⟩:=(HM11.out.below hI)
           have cc:=HK.blk_cell hb
           have c0:=cc 0
           have c1:=cc 1
           have c2:=cc 2
           have c3:=cc 3
           have c4:=cc 4
           have c5:=cc 5
           have c6:=cc 6
           clear cc
           go_simp
           refine hK _ _ ?_
           exact ⟨hI,fun _ => ⟨mk,mz,lp,r0,r1,r2,t0,t1,t2,u0,u1,u2,b0,b1,b2,rfl,h2,h3,h5,h4⟩,f1,f2,f3,f4,f5,f6,f7,f8,f9⟩
          ·intro L x a wR K hL hd hf hx hΦ hK
           obtain ⟨hI,f0,f1,f2,f3,f4,f5,f6,f7,f8,f9⟩:=hΦ
           refine ⟨fun _ => ?_,fun h => absurd h (by rw [Go.RE.wanted_none rfl]; decide)⟩
           have e12:a.tmps[12]? = some (.pointer (some ⟨B12,0,none⟩)):=hf 12 (of_decide_eq_true (by kernel_rfl))
           clear hf hx hd
           obtain ⟨o,nm,a0,a1,a2,s0,s1,s2,hb,h2,h3,h4⟩:=(HF12.out.below hI)
           have cc:=HK.blk_cell hb
           have c0:=cc 0
           have c1:=cc 1
           have c2:=cc 2
           have c3:=cc 3
           clear cc
           go_simp
           refine hK _ _ ?_
           exact ⟨hI,f0,fun _ => ⟨o,nm,a0,a1,a2,s0,s1,s2,rfl,h2,h3,h4⟩,f2,f3,f4,f5,f6,f7,f8,f9⟩
          ·intro L x a wR K hL hd hf hx hΦ hK
           obtain ⟨hI,f0,f1,f2,f3,f4,f5,f6,f7,f8,f9⟩:=hΦ
           refine ⟨fun _ => ?_,fun h => absurd h (by rw [Go.RE.wanted_none rfl]; decide)⟩
           have d1:=f1 (hd 1 (by kernel_rfl))
           have e146:a.tmps[146]? = some (x 146):=hx 1 _ 146 rfl rfl (hd 1 (by kernel_rfl))
           clear hf hx hd
           obtain ⟨o,nm,a0,a1,a2,s0,s1,s2,hv,h2,h3,h4⟩:=d1
           rw [hv] at e146
           go_simp
           refine hK _ _ ?_
           exact ⟨below_tr hI (below_alloc _ _),fun h => (f0 h).below (below_alloc wR _),fun h => (f1 h).below (below_alloc wR _),fun _ => build1 h2 h3 h4,fun h => (f3 h).below (below_alloc wR _),f4,f5,f6,f7,f8,f9⟩
          ·intro L x a wR K hL hd hf hx hΦ hK
           obtain ⟨hI,f0,f1,f2,f3,f4,f5,f6,f7,f8,f9⟩:=hΦ
           refine ⟨fun _ => ?_,fun h => absurd h (by rw [Go.RE.wanted_none rfl]; decide)⟩
           have d2:=f2 (hd 2 (by kernel_rfl))
           have e147:a.tmps[147]? = some (x 147):=hx 2 _ 147 rfl rfl (hd 2 (by kernel_rfl))
           clear hf hx hd
           obtain ⟨s0,s1,s2,hv,h2⟩:=d2
           rw [hv] at e147
           have HC:Hid (Calls Tryd.prog 15 #[.int .u8 10,.slice s0 s1 s2] wR fun e w' => e = .returned (.agg #[.int .u8 10,.string ⟨#[]⟩,.slice none 0 0,.slice s0 s1 s2]) /\ IsFv w' (.agg #[.int .u8 10,.string ⟨#[]⟩,.slice none 0 0,.slice s0 s1 s2]) (.mk 10 ⟨#[]⟩ [] [ff]) /\ Below wR.heap.size wR w'):=hid (joinv (op:=10) (by omega) ⟨s0,s1,s2,rfl,h2⟩)
           go_simp
           go_at_call 15
           with_reducible refine HC.out.mono ?_
           rintro e w' ⟨rfl,hfv,hB8⟩
           simp only
           refine hK _ _ ?_
           exact ⟨below_tr hI hB8,fun h => (f0 h).below hB8,fun h => (f1 h).below hB8,fun h => (f2 h).below hB8,fun _ => hfv,f4,f5,f6,f7,f8,f9⟩
          ·intro L x a wR K hL hd hf hx hΦ hK
           obtain ⟨hI,f0,f1,f2,f3,f4,f5,f6,f7,f8,f9⟩:=hΦ
           refine ⟨fun _ => ?_,fun h => absurd h (by rw [Go.RE.wanted_none rfl]; decide)⟩
           have d0:=f0 (hd 0 (by kernel_rfl))
           have e145:a.tmps[145]? = some (x 145):=hx 0 _ 145 rfl rfl (hd 0 (by kernel_rfl))
           have d3:=f3 (hd 3 (by kernel_rfl))
           have e148:a.tmps[148]? = some (x 148):=hx 3 _ 148 rfl rfl (hd 3 (by kernel_rfl))
           clear hf hx hd
           have hc:=at_erv d0 d3 (HRW.out.below hI) (by have:=HPL.out; simp only [nodesF,nodesTs,nodesT,nodesL] at *; omega) (.inr (no_box ff))
           obtain ⟨mk,mz,lp,r0,r1,r2,t0,t1,t2,u0,u1,u2,b0,b1,b2,hv,_,_,_,_⟩:=d0
           obtain ⟨o',nm',a0',a1',a2',s0',s1',s2',hv',_,_,_⟩:=d3
           rw [hv] at e145
           rw [hv'] at e148
           rw [hv,hv'] at hc
           unfold RetEr at hc
           have HC:=hid hc
           clear hc
           go_simp
           go_at_call 16
           with_reducible refine HC.out.mono ?_
           rintro e w' ⟨rfl,hB8⟩
           simp only
           refine hK _ _ ?_
           exact ⟨below_tr hI hB8,fun h => (f0 h).below hB8,fun h => (f1 h).below hB8,fun h => (f2 h).below hB8,fun h => (f3 h).below hB8,fun _ => rfl,f5,f6,f7,f8,f9⟩
          ·intro L x a wR K hL hd hf hx hΦ hK
           obtain ⟨hI,f0,f1,f2,f3,f4,f5,f6,f7,f8,f9⟩:=hΦ
           refine ⟨fun _ => ?_,fun h => absurd h (by rw [Go.RE.wanted_none rfl]; decide)⟩
           have d4:=f4 (hd 4 (by kernel_rfl))
           have e149:a.tmps[149]? = some (x 149):=hx 4 _ 149 rfl rfl (hd 4 (by kernel_rfl))
           rw [d4] at e149
           clear hf hx hd
           go_simp
           refine hK _ _ ?_
           exact ⟨hI,f0,f1,f2,f3,f4,fun _ => rfl,f6,f7,f8,f9⟩
          ·intro L x a wR K hL hd hf hx hΦ hK
           obtain ⟨hI,f0,f1,f2,f3,f4,f5,f6,f7,f8,f9⟩:=hΦ
           refine ⟨fun _ => ?_,fun h => absurd h (by rw [Go.RE.wanted_none rfl]; decide)⟩
           have d5:=f5 (hd 5 (by kernel_rfl))
           have e144:a.tmps[144]? = some (x 144):=hx 5 _ 144 rfl rfl (hd 5 (by kernel_rfl))
           rw [d5] at e144
           clear hf hx hd
           go_simp
           refine hK _ _ ?_
           exact ⟨hI,f0,f1,f2,f3,f4,f5,fun _ => rfl,f7,f8,f9⟩
          ·intro L x a wR K hL hd hf hx hΦ hK
           obtain ⟨hI,f0,f1,f2,f3,f4,f5,f6,f7,f8,f9⟩:=hΦ
           refine ⟨fun _ => ?_,fun h => absurd h (by rw [Go.RE.wanted_none rfl]; decide)⟩
           have d5:=f5 (hd 5 (by kernel_rfl))
           have e144:a.tmps[144]? = some (x 144):=hx 5 _ 144 rfl rfl (hd 5 (by kernel_rfl))
           rw [d5] at e144
           clear hf hx hd
           go_simp
           refine hK _ _ ?_
           exact ⟨hI,f0,f1,f2,f3,f4,f5,f6,fun _ => rfl,f8,f9⟩
          ·intro L x a wR K hL hd hf hx hΦ hK
           obtain ⟨hI,f0,f1,f2,f3,f4,f5,f6,f7,f8,f9⟩:=hΦ
           refine ⟨fun _ => ?_,fun h => absurd h (by rw [Go.RE.wanted_none rfl]; decide)⟩
           have d6:=f6 (hd 6 (by kernel_rfl))
           have e150:a.tmps[150]? = some (x 150):=hx 6 _ 150 rfl rfl (hd 6 (by kernel_rfl))
           rw [d6] at e150
           clear hf hx hd
           go_simp
           refine hK _ _ ?_
           exact ⟨hI,f0,f1,f2,f3,f4,f5,f6,f7,fun _ => rfl,f9⟩
          ·intro L x a wR K hL hd hf hx hΦ hK
           obtain ⟨hI,f0,f1,f2,f3,f4,f5,f6,f7,f8,f9⟩:=hΦ
           refine ⟨fun _ => ?_,fun h => absurd h (by rw [Go.RE.wanted_none rfl]; decide)⟩
           have d7:=f7 (hd 7 (by kernel_rfl))
           have e151:a.tmps[151]? = some (x 151):=hx 7 _ 151 rfl rfl (hd 7 (by kernel_rfl))
           rw [d7] at e151
           clear hf hx hd
           go_simp
           refine hK _ _ ?_
           exact ⟨hI,f0,f1,f2,f3,f4,f5,f6,f7,f8,fun _ => rfl⟩
          ·rintro x W ⟨hI,f0,f1,f2,f3,f4,f5,f6,f7,f8,f9⟩
           simp only [Exit.then]
           go_step
           go_meet
           exact ⟨f9 rfl,hI⟩
         case rest =>
          obtain ⟨rfl,hB⟩:=hcut
          replace HM13:=hid (HM13.out.below hB)
          replace HM11:=hid (HM11.out.below hB)
          replace HF12:=hid (HF12.out.below hB)
          replace HRW:=hid (HRW.out.below hB)
          replace HBL:=hid (below_tr HBL.out hB)
          obtain ⟨q9,hq9⟩:∃ q:World,q = wc:=⟨_,rfl⟩
          subst hq9
          clear hB
          go_upto_region 28 with (fail)
          go_cut [24,25] from 152 to 162 (fun v24 v25 wx => v25 = .int .i64 2 /\ Below q9.heap.size q9 wx)
          case first =>
           refine Go.RE.wp_region_eachg [153,154,155,156,157,158,159,160,152,161,162,24,25] (fun L x W => (Below q9.heap.size q9 W) /\ (L 0 = true -> IsMv W (x 153) (mdl 3 n rl [u4,u5,u6])) /\ (L 1 = true -> IsFv W (x 154) (ff)) /\ (L 2 = true -> x 155 = .agg #[.bool false,.string ⟨#[97]⟩,.slice none 0 0]) /\ (L 3 = true -> ∃ s0 s1 s2,x 156 = .slice s0 s1 s2 /\ IsTs (Lt W) W ⟨s0,s1,s2⟩ [.mk false ⟨#[97]⟩ []]) /\ (L 4 = true -> IsFv W (x 157) Pa) /\ (L 5 = true -> IsFsV W (x 158) [ff,Pa]) /\ (L 6 = true -> IsFv W (x 159) (.mk 4 ⟨#[]⟩ [] [ff,Pa])) /\ (L 7 = true -> x 160 = .tuple #[.int .i64 0,.int .i64 2]) /\ (L 8 = true -> x 152 = .tuple #[.int .i64 0,.int .i64 2]) /\ (L 9 = true -> x 161 = .int .i64 0) /\ (L 10 = true -> x 162 = .int .i64 2) /\ (L 11 = true -> x 24 = .int .i64 0) /\ (L 12 = true -> x 25 = .int .i64 2)) (by kernel_rfl) (by kernel_rfl) (by kernel_rfl) ?_ ((Go.RE.Each.cons ?_ (Go.RE.Each.cons ?_ (Go.RE.Each.cons ?_ (Go.RE.Each.cons ?_ (Go.RE.Each.cons ?_ (Go.RE.Each.cons ?_ (Go.RE.Each.cons ?_ (Go.RE.Each.cons ?_ (Go.RE.Each.cons ?_ (Go.RE.Each.cons ?_ (Go.RE.Each.cons ?_ (Go.RE.Each.cons ?_ (Go.RE.Each.cons ?_ Go.RE.Each.nil)))))))))))))) ?_
           ·exact fun x => ⟨bl_dw (Below.refl _ _),nofun,nofun,nofun,nofun,nofun,nofun,nofun,nofun,nofun,nofun,nofun,nofun,nofun⟩
           ·intro L x a wR K hL hd hf hx hΦ hK
            obtain ⟨hI,f0,f1,f2,f3,f4,f5,f6,f7,f8,f9,f10,f11,f12⟩:=hΦ
            refine ⟨fun _ => ?_,fun h => absurd h (by rw [Go.RE.wanted_none rfl]; decide)⟩
            have e11:a.tmps[11]? = some (.pointer (some ⟨B11,0,none⟩)):=hf 11 (of_decide_eq_true (by kernel_rfl))
            clear hf hx hd
            obtain ⟨mk,mz,lp,r0,r1,r2,t0,t1,t2,u0,u1,u2,b0,b1,b2,hb,h2,h3,h5,h4⟩:=(HM11.out.below hI)
            have cc:=HK.blk_cell hb
            have c0:=cc 0
            have c1:=cc 1
            have c2:=cc 2
            have c3:=cc 3
            have c4:=cc 4
            have c5:=cc 5
            have c6:=cc 6
            clear cc
            go_simp
            refine hK _ _ ?_
            exact ⟨hI,fun _ => ⟨mk,mz,lp,r0,r1,r2,t0,t1,t2,u0,u1,u2,b0,b1,b2,rfl,h2,h3,h5,h4⟩,f1,f2,f3,f4,f5,f6,f7,f8,f9,f10,f11,f12⟩
           ·intro L x a wR K hL hd hf hx hΦ hK
            obtain ⟨hI,f0,f1,f2,f3,f4,f5,f6,f7,f8,f9,f10,f11,f12⟩:=hΦ
            refine ⟨fun _ => ?_,fun h => absurd h (by rw [Go.RE.wanted_none rfl]; decide)⟩
            have e12:a.tmps[12]? = some (.pointer (some ⟨B12,0,none⟩)):=hf 12 (of_decide_eq_true (by kernel_rfl))
            clear hf hx hd
            obtain ⟨o,nm,a0,a1,a2,s0,s1,s2,hb,h2,h3,h4⟩:=(HF12.out.below hI)
            have cc:=HK.blk_cell hb
            have c0:=cc 0
            have c1:=cc 1
            have c2:=cc 2
            have c3:=cc 3
            clear cc
            go_simp
            refine hK _ _ ?_
            exact ⟨hI,f0,fun _ => ⟨o,nm,a0,a1,a2,s0,s1,s2,rfl,h2,h3,h4⟩,f2,f3,f4,f5,f6,f7,f8,f9,f10,f11,f12⟩
           ·intro L x a wR K hL hd hf hx hΦ hK
            obtain ⟨hI,f0,f1,f2,f3,f4,f5,f6,f7,f8,f9,f10,f11,f12⟩:=hΦ
            refine ⟨fun _ => ?_,fun h => absurd h (by rw [Go.RE.wanted_none rfl]; decide)⟩
            clear hf hx hd
            go_simp
            refine hK _ _ ?_
            exact ⟨hI,f0,f1,fun _ => rfl,f3,f4,f5,f6,f7,f8,f9,f10,f11,f12⟩
           ·intro L x a wR K hL hd hf hx hΦ hK
            obtain ⟨hI,f0,f1,f2,f3,f4,f5,f6,f7,f8,f9,f10,f11,f12⟩:=hΦ
            refine ⟨fun _ => ?_,fun h => absurd h (by rw [Go.RE.wanted_none rfl]; decide)⟩
            have d2:=f2 (hd 2 (by kernel_rfl))
            have e155:a.tmps[155]? = some (x 155):=hx 2 _ 155 rfl rfl (hd 2 (by kernel_rfl))
            rw [d2] at e155
            clear hf hx hd
            go_simp
            refine hK _ _ ?_
            exact ⟨below_tr hI (below_alloc _ _),fun h => (f0 h).below (below_alloc wR _),fun h => (f1 h).below (below_alloc wR _),f2,fun _ => ⟨_,_,_,rfl,ts_one wR _ (by decide)⟩,fun h => (f4 h).below (below_alloc wR _),fun h => (f5 h).below (below_alloc wR _),fun h => (f6 h).below (below_alloc wR _),f7,f8,f9,f10,f11,f12⟩
           ·intro L x a wR K hL hd hf hx hΦ hK
            obtain ⟨hI,f0,f1,f2,f3,f4,f5,f6,f7,f8,f9,f10,f11,f12⟩:=hΦ
            refine ⟨fun _ => ?_,fun h => absurd h (by rw [Go.RE.wanted_none rfl]; decide)⟩
            have d3:=f3 (hd 3 (by kernel_rfl))
            have e156:a.tmps[156]? = some (x 156):=hx 3 _ 156 rfl rfl (hd 3 (by kernel_rfl))
            clear hf hx hd
            obtain ⟨s0,s1,s2,hv,h2⟩:=d3
            rw [hv] at e156
            go_simp
            refine hK _ _ ?_
            exact ⟨hI,f0,f1,f2,f3,fun _ => ⟨1,⟨#[80]⟩,s0,s1,s2,none,0,0,rfl,rfl,rfl,fm_atom (by decide) h2⟩,f5,f6,f7,f8,f9,f10,f11,f12⟩
           ·intro L x a wR K hL hd hf hx hΦ hK
            obtain ⟨hI,f0,f1,f2,f3,f4,f5,f6,f7,f8,f9,f10,f11,f12⟩:=hΦ
            refine ⟨fun _ => ?_,fun h => absurd h (by rw [Go.RE.wanted_none rfl]; decide)⟩
            have d1:=f1 (hd 1 (by kernel_rfl))
            have e154:a.tmps[154]? = some (x 154):=hx 1 _ 154 rfl rfl (hd 1 (by kernel_rfl))
            have d4:=f4 (hd 4 (by kernel_rfl))
            have e157:a.tmps[157]? = some (x 157):=hx 4 _ 157 rfl rfl (hd 4 (by kernel_rfl))
            clear hf hx hd
            obtain ⟨o,nm,a0,a1,a2,s0,s1,s2,hv,h2,h3,h4⟩:=d1
            rw [hv] at e154
            obtain ⟨o',nm',a0',a1',a2',s0',s1',s2',hv',h2',h3',h4'⟩:=d4
            rw [hv'] at e157
            go_simp
            refine hK _ _ ?_
            exact ⟨below_tr hI (below_alloc _ _),fun h => (f0 h).below (below_alloc wR _),fun h => (f1 h).below (below_alloc wR _),f2,fun h => (let ⟨s0,s1,s2,a,b⟩:=(f3 h); ⟨s0,s1,s2,a,b.turn (lt_up (below_alloc wR _))⟩),fun h => (f4 h).below (below_alloc wR _),fun _ => build2 h2 h3 h4 h2' h3' h4',fun h => (f6 h).below (below_alloc wR _),f7,f8,f9,f10,f11,f12⟩
           ·intro L x a wR K hL hd hf hx hΦ hK
            obtain ⟨hI,f0,f1,f2,f3,f4,f5,f6,f7,f8,f9,f10,f11,f12⟩:=hΦ
            refine ⟨fun _ => ?_,fun h => absurd h (by rw [Go.RE.wanted_none rfl]; decide)⟩
            have d5:=f5 (hd 5 (by kernel_rfl))
            have e158:a.tmps[158]? = some (x 158):=hx 5 _ 158 rfl rfl (hd 5 (by kernel_rfl))
            clear hf hx hd
            obtain ⟨s0,s1,s2,hv,h2⟩:=d5
            rw [hv] at e158
            have HC:Hid (Calls Tryd.prog 15 #[.int .u8 4,.slice s0 s1 s2] wR fun e w' => e = .returned (.agg #[.int .u8 4,.string ⟨#[]⟩,.slice none 0 0,.slice s0 s1 s2]) /\ IsFv w' (.agg #[.int .u8 4,.string ⟨#[]⟩,.slice none 0 0,.slice s0 s1 s2]) (.mk 4 ⟨#[]⟩ [] [ff,Pa]) /\ Below wR.heap.size wR w'):=hid (joinv (op:=4) (by omega) ⟨s0,s1,s2,rfl,h2⟩)
            go_simp
            go_at_call 15
            with_reducible refine HC.out.mono ?_
            rintro e w' ⟨rfl,hfv,hB8⟩
            simp only
            refine hK _ _ ?_
            exact ⟨below_tr hI hB8,fun h => (f0 h).below hB8,fun h => (f1 h).below hB8,f2,fun h => (let ⟨s0,s1,s2,a,b⟩:=(f3 h); ⟨s0,s1,s2,a,b.turn (lt_up hB8)⟩),fun h => (f4 h).below hB8,fun h => (f5 h).below hB8,fun _ => hfv,f7,f8,f9,f10,f11,f12⟩
           ·intro L x a wR K hL hd hf hx hΦ hK
            obtain ⟨hI,f0,f1,f2,f3,f4,f5,f6,f7,f8,f9,f10,f11,f12⟩:=hΦ
            refine ⟨fun _ => ?_,fun h => absurd h (by rw [Go.RE.wanted_none rfl]; decide)⟩
            have d0:=f0 (hd 0 (by kernel_rfl))
            have e153:a.tmps[153]? = some (x 153):=hx 0 _ 153 rfl rfl (hd 0 (by kernel_rfl))
            have d6:=f6 (hd 6 (by kernel_rfl))
            have e159:a.tmps[159]? = some (x 159):=hx 6 _ 159 rfl rfl (hd 6 (by kernel_rfl))
            clear hf hx hd
            have hc:=at_erv d0 d6 (HRW.out.below hI) (by have:=HPL.out; simp only [nodesF,nodesTs,nodesT,nodesL] at *; omega) (.inr (no_args ff))
            obtain ⟨mk,mz,lp,r0,r1,r2,t0,t1,t2,u0,u1,u2,b0,b1,b2,hv,_,_,_,_⟩:=d0
            obtain ⟨o',nm',a0',a1',a2',s0',s1',s2',hv',_,_,_⟩:=d6
            rw [hv] at e153
            rw [hv'] at e159
            rw [hv,hv'] at hc
            unfold RetEr at hc
            have HC:=hid hc
            clear hc
            go_simp
            go_at_call 16
            with_reducible refine HC.out.mono ?_
            rintro e w' ⟨rfl,hB8⟩
            simp only
            refine hK _ _ ?_
            exact ⟨below_tr hI hB8,fun h => (f0 h).below hB8,fun h => (f1 h).below hB8,f2,fun h => (let ⟨s0,s1,s2,a,b⟩:=(f3 h); ⟨s0,s1,s2,a,b.turn (lt_up hB8)⟩),fun h => (f4 h).below hB8,fun h => (f5 h).below hB8,fun h => (f6 h).below hB8,fun _ => rfl,f8,f9,f10,f11,f12⟩
           ·intro L x a wR K hL hd hf hx hΦ hK
            obtain ⟨hI,f0,f1,f2,f3,f4,f5,f6,f7,f8,f9,f10,f11,f12⟩:=hΦ
            refine ⟨fun _ => ?_,fun h => absurd h (by rw [Go.RE.wanted_none rfl]; decide)⟩
            have d7:=f7 (hd 7 (by kernel_rfl))
            have e160:a.tmps[160]? = some (x 160):=hx 7 _ 160 rfl rfl (hd 7 (by kernel_rfl))
            rw [d7] at e160
            clear hf hx hd
            go_simp
            refine hK _ _ ?_
            exact ⟨hI,f0,f1,f2,f3,f4,f5,f6,f7,fun _ => rfl,f9,f10,f11,f12⟩
           ·intro L x a wR K hL hd hf hx hΦ hK
            obtain ⟨hI,f0,f1,f2,f3,f4,f5,f6,f7,f8,f9,f10,f11,f12⟩:=hΦ
            refine ⟨fun _ => ?_,fun h => absurd h (by rw [Go.RE.wanted_none rfl]; decide)⟩
            have d8:=f8 (hd 8 (by kernel_rfl))
            have e152:a.tmps[152]? = some (x 152):=hx 8 _ 152 rfl rfl (hd 8 (by kernel_rfl))
            rw [d8] at e152
            clear hf hx hd
            go_simp
            refine hK _ _ ?_
            exact ⟨hI,f0,f1,f2,f3,f4,f5,f6,f7,f8,fun _ => rfl,f10,f11,f12⟩
           ·intro L x a wR K hL hd hf hx hΦ hK
            obtain ⟨hI,f0,f1,f2,f3,f4,f5,f6,f7,f8,f9,f10,f11,f12⟩:=hΦ
            refine ⟨fun _ => ?_,fun h => absurd h (by rw [Go.RE.wanted_none rfl]; decide)⟩
            have d8:=f8 (hd 8 (by kernel_rfl))
            have e152:a.tmps[152]? = some (x 152):=hx 8 _ 152 rfl rfl (hd 8 (by kernel_rfl))
            rw [d8] at e152
            clear hf hx hd
            go_simp
            refine hK _ _ ?_
            exact ⟨hI,f0,f1,f2,f3,f4,f5,f6,f7,f8,f9,fun _ => rfl,f11,f12⟩
           ·intro L x a wR K hL hd hf hx hΦ hK
            obtain ⟨hI,f0,f1,f2,f3,f4,f5,f6,f7,f8,f9,f10,f11,f12⟩:=hΦ
            refine ⟨fun _ => ?_,fun h => absurd h (by rw [Go.RE.wanted_none rfl]; decide)⟩
            have d9:=f9 (hd 9 (by kernel_rfl))
            have e161:a.tmps[161]? = some (x 161):=hx 9 _ 161 rfl rfl (hd 9 (by kernel_rfl))
            rw [d9] at e161
            clear hf hx hd
            go_simp
            refine hK _ _ ?_
            exact ⟨hI,f0,f1,f2,f3,f4,f5,f6,f7,f8,f9,f10,fun _ => rfl,f12⟩
           ·intro L x a wR K hL hd hf hx hΦ hK
            obtain ⟨hI,f0,f1,f2,f3,f4,f5,f6,f7,f8,f9,f10,f11,f12⟩:=hΦ
            refine ⟨fun _ => ?_,fun h => absurd h (by rw [Go.RE.wanted_none rfl]; decide)⟩
            have d10:=f10 (hd 10 (by kernel_rfl))
            have e162:a.tmps[162]? = some (x 162):=hx 10 _ 162 rfl rfl (hd 10 (by kernel_rfl))
            rw [d10] at e162
            clear hf hx hd
            go_simp
            refine hK _ _ ?_
            exact ⟨hI,f0,f1,f2,f3,f4,f5,f6,f7,f8,f9,f10,f11,fun _ => rfl⟩
           ·rintro x W ⟨hI,f0,f1,f2,f3,f4,f5,f6,f7,f8,f9,f10,f11,f12⟩
            simp only [Exit.then]
            go_step
            go_meet
            exact ⟨f12 rfl,hI⟩
          case rest =>
           obtain ⟨rfl,hB⟩:=hcut
           replace HM13:=hid (HM13.out.below hB)
           replace HM11:=hid (HM11.out.below hB)
           replace HF12:=hid (HF12.out.below hB)
           replace HRW:=hid (HRW.out.below hB)
           replace HBL:=hid (below_tr HBL.out hB)
           obtain ⟨q10,hq10⟩:∃ q:World,q = wc:=⟨_,rfl⟩
           subst hq10
           clear hB
           have hm7:(wy:Int).tmod 7 = ((wy % 7:Nat):Int):=by rw [Int.tmod_eq_emod_of_nonneg (by omega)]; rfl
           obtain ⟨j7,hj7⟩:∃ j,j = wy % 7:=⟨_,rfl⟩
           rw [<- hj7] at hm7
           have HJ7:Hid (j7 < 7):=hid (by omega)
           have hw7:IntKind.u8.wrap (1 + (j7:Int)) = 1 + (j7:Int):=by have h7:=HJ7.out; clear hm7 hj7; rcases (by omega:j7 = 0 ∨ j7 = 1 ∨ j7 = 2 ∨ j7 = 3 ∨ j7 = 4 ∨ j7 = 5 ∨ j7 = 6) with rfl | rfl | rfl | rfl | rfl | rfl | rfl <;> decide +kernel
           have hu7:IntKind.u8.wrap (j7:Int) = (j7:Int):=by have h7:=HJ7.out; clear hm7 hj7 hw7; rcases (by omega:j7 = 0 ∨ j7 = 1 ∨ j7 = 2 ∨ j7 = 3 ∨ j7 = 4 ∨ j7 = 5 ∨ j7 = 6) with rfl | rfl | rfl | rfl | rfl | rfl | rfl <;> decide +kernel
           clear hj7
           go_upto_region 29 with (fail)
           go_cut [26,27] from 163 to 170 (fun v26 v27 wx => v27 = .int .i64 2 /\ Below q10.heap.size q10 wx)
           case first =>
            obtain ⟨mk',mz',lp',r0',r1',r2',t0',t1',t2',u0',u1',u2',b0',b1',b2',hb',h2',h3',h5',h4'⟩:=HM11.out
            have cc':=HK.blk_cell hb'
            have c0':=cc' 0
            have c1':=cc' 1
            have c2':=cc' 2
            have c3':=cc' 3
            have c4':=cc' 4
            have c5':=cc' 5
            have c6':=cc' 6
            clear cc'
            have hc:=number_mask (W:=q10) ⟨mk',mz',lp',r0',r1',r2',t0',t1',t2',u0',u1',u2',b0',b1',b2',rfl,h2',h3',h5',h4'⟩ HMOK.out (1 + j7) (by have:=HJ7.out; omega) (by have:=HN14.out; show -9223372036854775808 <= (n:Int) /\ (n:Int) <= 9223372036854775807; omega) (by show wrongB 3 (1 + j7) (n:Int) = true; unfold wrongB; rw [if_pos rfl,decide_eq_true (show 1 + j7 ≠ 0 by omega)]; rfl)
            rw [show ((1 + j7:Nat):Int) = 1 + (j7:Int) by omega] at hc
            unfold RetEr at hc
            have HC:=hid hc
            clear hc
            go_wp2_with (go_at_call 34; ((with_reducible refine HC.out.mono ?_); rintro e w' ⟨rfl,hB⟩))
            go_meet
            exact ⟨rfl,hB⟩
           case rest =>
            obtain ⟨rfl,hB⟩:=hcut
            replace HM13:=hid (HM13.out.below hB)
            replace HM11:=hid (HM11.out.below hB)
            replace HF12:=hid (HF12.out.below hB)
            replace HRW:=hid (HRW.out.below hB)
            replace HBL:=hid (below_tr HBL.out hB)
            obtain ⟨q11,hq11⟩:∃ q:World,q = wc:=⟨_,rfl⟩
            subst hq11
            clear hB
            go_upto_region 30 with (fail)
            go_cut [28,29] from 171 to 177 (fun v28 v29 wx => v29 = .int .i64 2 /\ Below q11.heap.size q11 wx)
            case first =>
             have hc:Calls Tryd.prog 32 #[.int .u8 3,.int .u8 ((1 + j7:Nat):Int),.slice none 0 0,.int .i64 1] q11 _:=count_er q11 3 (1 + j7) 1 (by omega) (by have:=HJ7.out; omega) (by omega) (by unfold wrongB; rw [if_pos rfl,decide_eq_true (show 1 + j7 ≠ 0 by omega)]; rfl)
             rw [show ((1 + j7:Nat):Int) = 1 + (j7:Int) by omega] at hc
             unfold RetEr at hc
             have HC:=hid hc
             clear hc
             go_wp2_with (go_at_call 32; ((with_reducible refine HC.out.mono ?_); rintro e w' ⟨rfl,hB⟩))
             go_meet
             exact ⟨rfl,hB⟩
            case rest =>
             obtain ⟨rfl,hB⟩:=hcut
             replace HM13:=hid (HM13.out.below hB)
             replace HM11:=hid (HM11.out.below hB)
             replace HF12:=hid (HF12.out.below hB)
             replace HRW:=hid (HRW.out.below hB)
             replace HBL:=hid (below_tr HBL.out hB)
             obtain ⟨q12,hq12⟩:∃ q:World,q = wc:=⟨_,rfl⟩
             subst hq12
             clear hB
             have hx8:max (wy:Int) 8 = ((max wy 8:Nat):Int):=by omega
             clear hm7 hw7 hu7
             go_upto_region 31 with (fail)
             go_cut [30,31] from 178 to 183 (fun v30 v31 wx => v31 = .int .i64 2 /\ Below q12.heap.size q12 wx)
             case first =>
              have hc:Calls Tryd.prog 32 #[.int .u8 4,.int .u8 ((max wy 8:Nat):Int),.slice none 0 0,.int .i64 1] q12 _:=count_er q12 4 (max wy 8) 1 (by omega) (by have:=HWY.out; omega) (by omega) (by unfold wrongB; rw [if_neg (by omega),if_pos rfl,decide_eq_true (show 7 < max wy 8 by omega)]; rfl)
              unfold RetEr at hc
              have HC:=hid hc
              clear hc
              go_wp2_with (go_at_call 32; ((with_reducible refine HC.out.mono ?_); rintro e w' ⟨rfl,hB⟩))
              go_meet
              exact ⟨rfl,hB⟩
             case rest =>
              obtain ⟨rfl,hB⟩:=hcut
              replace HM13:=hid (HM13.out.below hB)
              replace HM11:=hid (HM11.out.below hB)
              replace HF12:=hid (HF12.out.below hB)
              replace HRW:=hid (HRW.out.below hB)
              replace HBL:=hid (below_tr HBL.out hB)
              obtain ⟨q13,hq13⟩:∃ q:World,q = wc:=⟨_,rfl⟩
              subst hq13
              clear hB
              go_upto_region 32 with (fail)
              go_cut [32,33] from 184 to 188 (fun v32 v33 wx => v33 = .int .i64 2 /\ Below q13.heap.size q13 wx)
              case first =>
               have hb2:=HK.blk_new q13 (.cells #[.string ⟨#[81]⟩,.string ⟨#[80]⟩] 9)
               have hc:=count_qp (q13.alloc (.cells #[.string ⟨#[81]⟩,.string ⟨#[80]⟩] 9)) q13.heap.size hb2
               clear hb2
               unfold RetEr at hc
               have HC:=hid hc
               clear hc
               go_wp2_with (go_at_call 32; ((with_reducible refine HC.out.mono ?_); rintro e w' ⟨rfl,hB⟩))
               go_meet
               exact ⟨rfl,below_tr (below_alloc _ _) hB⟩
              case rest =>
               obtain ⟨rfl,hB⟩:=hcut
               replace HM13:=hid (HM13.out.below hB)
               replace HM11:=hid (HM11.out.below hB)
               replace HF12:=hid (HF12.out.below hB)
               replace HRW:=hid (HRW.out.below hB)
               replace HBL:=hid (below_tr HBL.out hB)
               obtain ⟨q14,hq14⟩:∃ q:World,q = wc:=⟨_,rfl⟩
               subst hq14
               clear hB
               go_upto_region 33 with (fail)
               go_cut [34,35] from 189 to 194 (fun v34 v35 wx => v35 = .int .i64 2 /\ Below q14.heap.size q14 wx)
               case first =>
                have hc:=nth_er5 q14 nn HNI.out
                unfold RetEr at hc
                have HC:=hid hc
                clear hc
                go_wp2_with (go_at_call 33; ((with_reducible refine HC.out.mono ?_); rintro e w' ⟨rfl,hB⟩))
                go_meet
                exact ⟨rfl,below_tr hB (below_alloc _ _)⟩
               case rest =>
                obtain ⟨rfl,hB⟩:=hcut
                replace HM13:=hid (HM13.out.below hB)
                replace HM11:=hid (HM11.out.below hB)
                replace HF12:=hid (HF12.out.below hB)
                replace HRW:=hid (HRW.out.below hB)
                replace HBL:=hid (below_tr HBL.out hB)
                obtain ⟨q15,hq15⟩:∃ q:World,q = wc:=⟨_,rfl⟩
                subst hq15
                clear hB
                go_upto_region 34 with (fail)
                go_cut [36,37] from 195 to 201 (fun v36 v37 wx => v37 = .int .i64 2 /\ Below q15.heap.size q15 wx)
                case first =>
                 have hb2:=HK.blk_new q15 (.cells #[.int .i64 (max nn 2)] 3)
                 have hc:=close_er (q15.alloc (.cells #[.int .i64 (max nn 2)] 3)) q15.heap.size nn hb2
                 clear hb2
                 unfold RetEr at hc
                 have HC:=hid hc
                 clear hc
                 go_wp2_with (go_at_call 22; ((with_reducible refine HC.out.mono ?_); rintro e w' ⟨rfl,hB⟩))
                 go_meet
                 exact ⟨rfl,below_tr (below_alloc _ _) hB⟩
                case rest =>
                 obtain ⟨rfl,hB⟩:=hcut
                 replace HM13:=hid (HM13.out.below hB)
                 replace HM11:=hid (HM11.out.below hB)
                 replace HF12:=hid (HF12.out.below hB)
                 replace HRW:=hid (HRW.out.below hB)
                 replace HBL:=hid (below_tr HBL.out hB)
                 obtain ⟨q16,hq16⟩:∃ q:World,q = wc:=⟨_,rfl⟩
                 subst hq16
                 clear hB
                 go_wp2_with (fail)
                 obtain ⟨qa,hqa⟩:∃ W:World,W = q16.alloc (.cells #[.int .i64 2,.int .i64 2,.int .i64 2,.int .i64 2,.int .i64 2,.int .i64 2,.int .i64 2,.int .i64 2,.int .i64 2,.int .i64 2,.int .i64 2,.int .i64 2] 38):=⟨_,rfl⟩
                 rw [<- hqa]
                 have hrow:qa.heap[q16.heap.size]? = some (.cells #[.int .i64 2,.int .i64 2,.int .i64 2,.int .i64 2,.int .i64 2,.int .i64 2,.int .i64 2,.int .i64 2,.int .i64 2,.int .i64 2,.int .i64 2,.int .i64 2] 38 (0,0)):=by rw [hqa]; exact HK.blk_new _ _
                 have hB:Below q16.heap.size q16 qa:=by rw [hqa]; exact below_alloc _ _
                 have HROW:=hid hrow
                 have HB9:=hid hB
                 clear hqa hrow hB
                 go_loopw [216] (fun i wr => ∃ k:Nat,k <= 12 /\ i = .int .i64 k /\ wr = qa) (fun i _ => 12 - (intOf i).toNat)
                 case atStart => exact ⟨0,by omega,rfl,rfl⟩
                 case round =>
                  obtain ⟨k,hk,rfl,rfl⟩:=hrel
                  by_cases hkn:(k:Int) < 12
                  ·have b0:(0:Int) <= (k:Int):=by omega
                   have hc:wr.cell? ⟨q16.heap.size,k,none⟩ = some (.int .i64 2):=by
                    rw [HK.blk_cell HROW.out]
                    rcases (by omega:k = 0 ∨ k = 1 ∨ k = 2 ∨ k = 3 ∨ k = 4 ∨ k = 5 ∨ k = 6 ∨ k = 7 ∨ k = 8 ∨ k = 9 ∨ k = 10 ∨ k = 11) with rfl | rfl | rfl | rfl | rfl | rfl | rfl | rfl | rfl | rfl | rfl | rfl <;> rfl
                   go_wp2_with (fail)
                   go_roundw
                   case rel => exact ⟨k + 1,by omega,by go_num,by first | rfl | trivial⟩
                   case measure => simp [intOf]; omega
                  ·clear hk
                   replace HM13:=hid (HM13.out.below HB9.out)
                   replace HM11:=hid (HM11.out.below HB9.out)
                   replace HF12:=hid (HF12.out.below HB9.out)
                   replace HRW:=hid (HRW.out.below HB9.out)
                   replace HBL:=hid (below_tr HBL.out HB9.out)
                   clear HROW HB9
                   go_upto_region 41 with (fail)
                   clear hkn
                   go_cut [40,41] from 223 to 231 (fun v40 v41 wx => v41 = .int .i64 6 /\ Below wr.heap.size wr wx)
                   case first =>
                    obtain ⟨mk',mz',lp',r0',r1',r2',t0',t1',t2',u0',u1',u2',b0',b1',b2',hb',h2',h3',h5',h4'⟩:=HM11.out
                    have cc':=HK.blk_cell hb'
                    have c0':=cc' 0
                    have c1':=cc' 1
                    have c2':=cc' 2
                    have c3':=cc' 3
                    have c4':=cc' 4
                    have c5':=cc' 5
                    have c6':=cc' 6
                    clear cc'
                    have hc:=part_offv (W:=wr) ⟨mk',mz',lp',r0',r1',r2',t0',t1',t2',u0',u1',u2',b0',b1',b2',rfl,h2',h3',h5',h4'⟩ HMOK.out (max nn mz') (.inr (by rw [h3']; exact Int.le_max_right _ _))
                    unfold RetEr at hc
                    have HC:=hid hc
                    clear hc
                    go_wp2_with (go_at_call 30; ((with_reducible refine HC.out.mono ?_); rintro e w' ⟨rfl,hB⟩))
                    go_meet
                    exact ⟨rfl,below_tr hB (below_alloc _ _)⟩
                   case rest =>
                    obtain ⟨rfl,hB⟩:=hcut
                    replace HM13:=hid (HM13.out.below hB)
                    replace HM11:=hid (HM11.out.below hB)
                    replace HF12:=hid (HF12.out.below hB)
                    replace HRW:=hid (HRW.out.below hB)
                    replace HBL:=hid (below_tr HBL.out hB)
                    obtain ⟨q17,hq17⟩:∃ q:World,q = wc:=⟨_,rfl⟩
                    subst hq17
                    clear hB
                    go_upto_region 42 with (fail)
                    go_cut [42,43] from 232 to 238 (fun v42 v43 wx => v43 = .int .i64 6 /\ Below q17.heap.size q17 wx)
                    case first =>
                     obtain ⟨mk',mz',lp',r0',r1',r2',t0',t1',t2',u0',u1',u2',b0',b1',b2',hb',h2',h3',h5',h4'⟩:=HM11.out
                     have cc':=HK.blk_cell hb'
                     have c0':=cc' 0
                     have c1':=cc' 1
                     have c2':=cc' 2
                     have c3':=cc' 3
                     have c4':=cc' 4
                     have c5':=cc' 5
                     have c6':=cc' 6
                     clear cc'
                     have hc:=part_offv (W:=q17) ⟨mk',mz',lp',r0',r1',r2',t0',t1',t2',u0',u1',u2',b0',b1',b2',rfl,h2',h3',h5',h4'⟩ HMOK.out (min nn (-1)) (.inl (by omega))
                     unfold RetEr at hc
                     have HC:=hid hc
                     clear hc
                     go_wp2_with (go_at_call 30; ((with_reducible refine HC.out.mono ?_); rintro e w' ⟨rfl,hB⟩))
                     go_meet
                     exact ⟨rfl,below_tr hB (below_alloc _ _)⟩
                    case rest =>
                     obtain ⟨rfl,hB⟩:=hcut
                     replace HM13:=hid (HM13.out.below hB)
                     replace HM11:=hid (HM11.out.below hB)
                     replace HF12:=hid (HF12.out.below hB)
                     replace HRW:=hid (HRW.out.below hB)
                     replace HBL:=hid (below_tr HBL.out hB)
                     obtain ⟨q18,hq18⟩:∃ q:World,q = wc:=⟨_,rfl⟩
                     subst hq18
                     clear hB
                     go_upto_region 43 with (fail)
                     go_cut [44,45] from 239 to 246 (fun v44 v45 wx => v45 = .int .i64 6 /\ Below q18.heap.size q18 wx)
                     case first =>
                      refine Go.RE.wp_region_eachg [240,241,242,243,244,239,245,246,44,45] (fun L x W => (Below q18.heap.size q18 W) /\ (L 0 = true -> IsMv W (x 240) (mdl 3 n rl [u4,u5,u6])) /\ (L 1 = true -> IsFv W (x 241) (.mk 1 ⟨#[83]⟩ [] [])) /\ (L 2 = true -> IsFsV W (x 242) [.mk 1 ⟨#[83]⟩ [] []]) /\ (L 3 = true -> IsFv W (x 243) (.mk 3 ⟨#[]⟩ [] [.mk 1 ⟨#[83]⟩ [] []])) /\ (L 4 = true -> x 244 = .tuple #[.int .i64 0,.int .i64 6]) /\ (L 5 = true -> x 239 = .tuple #[.int .i64 0,.int .i64 6]) /\ (L 6 = true -> x 245 = .int .i64 0) /\ (L 7 = true -> x 246 = .int .i64 6) /\ (L 8 = true -> x 44 = .int .i64 0) /\ (L 9 = true -> x 45 = .int .i64 6)) (by kernel_rfl) (by kernel_rfl) (by kernel_rfl) ?_ ((Go.RE.Each.cons ?_ (Go.RE.Each.cons ?_ (Go.RE.Each.cons ?_ (Go.RE.Each.cons ?_ (Go.RE.Each.cons ?_ (Go.RE.Each.cons ?_ (Go.RE.Each.cons ?_ (Go.RE.Each.cons ?_ (Go.RE.Each.cons ?_ (Go.RE.Each.cons ?_ Go.RE.Each.nil))))))))))) ?_
                      ·exact fun x => ⟨bl_dw (Below.refl _ _),nofun,nofun,nofun,nofun,nofun,nofun,nofun,nofun,nofun,nofun⟩
                      ·intro L x a wR K hL hd hf hx hΦ hK
                       obtain ⟨hI,f0,f1,f2,f3,f4,f5,f6,f7,f8,f9⟩:=hΦ
                       refine ⟨fun _ => ?_,fun h => absurd h (by rw [Go.RE.wanted_none rfl]; decide)⟩
                       have e11:a.tmps[11]? = some (.pointer (some ⟨B11,0,none⟩)):=hf 11 (of_decide_eq_true (by kernel_rfl))
                       clear hf hx hd
                       obtain ⟨mk,mz,lp,r0,r1,r2,t0,t1,t2,u0,u1,u2,b0,b1,b2,hb,h2,h3,h5,h4⟩:=(HM11.out.below hI)
                       have cc:=HK.blk_cell hb
                       have c0:=cc 0
                       have c1:=cc 1
                       have c2:=cc 2
                       have c3:=cc 3
                       have c4:=cc 4
                       have c5:=cc 5
                       have c6:=cc 6
                       clear cc
                       go_simp
                       refine hK _ _ ?_
                       exact ⟨hI,fun _ => ⟨mk,mz,lp,r0,r1,r2,t0,t1,t2,u0,u1,u2,b0,b1,b2,rfl,h2,h3,h5,h4⟩,f1,f2,f3,f4,f5,f6,f7,f8,f9⟩
                      ·intro L x a wR K hL hd hf hx hΦ hK
                       obtain ⟨hI,f0,f1,f2,f3,f4,f5,f6,f7,f8,f9⟩:=hΦ
                       refine ⟨fun _ => ?_,fun h => absurd h (by rw [Go.RE.wanted_none rfl]; decide)⟩
                       clear hf hx hd
                       have HC:Hid (Calls Tryd.prog 29 #[.string ⟨#[83]⟩] wR _):=hid (atom_call wR ⟨#[83]⟩)
                       go_simp
                       go_at_call 29
                       with_reducible refine HC.out.mono ?_
                       rintro e w' ⟨rfl,rfl⟩
                       simp only
                       refine hK _ _ ?_
                       exact ⟨below_tr hI (below_alloc _ _),fun h => (f0 h).below (below_alloc wR _),fun _ => ⟨1,⟨#[83]⟩,none,0,0,none,0,0,rfl,rfl,rfl,fm_atom (by decide) (.nil none 0)⟩,fun h => (f2 h).below (below_alloc wR _),fun h => (f3 h).below (below_alloc wR _),f4,f5,f6,f7,f8,f9⟩
                      ·intro L x a wR K hL hd hf hx hΦ hK
                       obtain ⟨hI,f0,f1,f2,f3,f4,f5,f6,f7,f8,f9⟩:=hΦ
                       refine ⟨fun _ => ?_,fun h => absurd h (by rw [Go.RE.wanted_none rfl]; decide)⟩
                       have d1:=f1 (hd 1 (by kernel_rfl))
                       have e241:a.tmps[241]? = some (x 241):=hx 1 _ 241 rfl rfl (hd 1 (by kernel_rfl))
                       clear hf hx hd
                       obtain ⟨o,nm,a0,a1,a2,s0,s1,s2,hv,h2,h3,h4⟩:=d1
                       rw [hv] at e241
                       go_simp
                       refine hK _ _ ?_
                       exact ⟨below_tr hI (below_alloc _ _),fun h => (f0 h).below (below_alloc wR _),fun h => (f1 h).below (below_alloc wR _),fun _ => build1 h2 h3 h4,fun h => (f3 h).below (below_alloc wR _),f4,f5,f6,f7,f8,f9⟩
                      ·intro L x a wR K hL hd hf hx hΦ hK
                       obtain ⟨hI,f0,f1,f2,f3,f4,f5,f6,f7,f8,f9⟩:=hΦ
                       refine ⟨fun _ => ?_,fun h => absurd h (by rw [Go.RE.wanted_none rfl]; decide)⟩
                       have d2:=f2 (hd 2 (by kernel_rfl))
                       have e242:a.tmps[242]? = some (x 242):=hx 2 _ 242 rfl rfl (hd 2 (by kernel_rfl))
                       clear hf hx hd
                       obtain ⟨s0,s1,s2,hv,h2⟩:=d2
                       rw [hv] at e242
                       have HC:Hid (Calls Tryd.prog 15 #[.int .u8 3,.slice s0 s1 s2] wR fun e w' => e = .returned (.agg #[.int .u8 3,.string ⟨#[]⟩,.slice none 0 0,.slice s0 s1 s2]) /\ IsFv w' (.agg #[.int .u8 3,.string ⟨#[]⟩,.slice none 0 0,.slice s0 s1 s2]) (.mk 3 ⟨#[]⟩ [] [.mk 1 ⟨#[83]⟩ [] []]) /\ Below wR.heap.size wR w'):=hid (joinv (op:=3) (by omega) ⟨s0,s1,s2,rfl,h2⟩)
                       go_simp
                       go_at_call 15
                       with_reducible refine HC.out.mono ?_
                       rintro e w' ⟨rfl,hfv,hB8⟩
                       simp only
                       refine hK _ _ ?_
                       exact ⟨below_tr hI hB8,fun h => (f0 h).below hB8,fun h => (f1 h).below hB8,fun h => (f2 h).below hB8,fun _ => hfv,f4,f5,f6,f7,f8,f9⟩
                      ·intro L x a wR K hL hd hf hx hΦ hK
                       obtain ⟨hI,f0,f1,f2,f3,f4,f5,f6,f7,f8,f9⟩:=hΦ
                       refine ⟨fun _ => ?_,fun h => absurd h (by rw [Go.RE.wanted_none rfl]; decide)⟩
                       have d0:=f0 (hd 0 (by kernel_rfl))
                       have e240:a.tmps[240]? = some (x 240):=hx 0 _ 240 rfl rfl (hd 0 (by kernel_rfl))
                       have d3:=f3 (hd 3 (by kernel_rfl))
                       have e243:a.tmps[243]? = some (x 243):=hx 3 _ 243 rfl rfl (hd 3 (by kernel_rfl))
                       clear hf hx hd
                       have hc:=at_lkv d0 d3 (HRW.out.below hI) (by have:=HPL.out; simp only [nodesF,nodesTs,nodesT,nodesL] at *; omega) HMOK.out right_S (lack_S _ _ _ _ _ _)
                       obtain ⟨mk,mz,lp,r0,r1,r2,t0,t1,t2,u0,u1,u2,b0,b1,b2,hv,_,_,_,_⟩:=d0
                       obtain ⟨o',nm',a0',a1',a2',s0',s1',s2',hv',_,_,_⟩:=d3
                       rw [hv] at e240
                       rw [hv'] at e243
                       rw [hv,hv'] at hc
                       unfold RetEr at hc
                       have HC:=hid hc
                       clear hc
                       go_simp
                       go_at_call 16
                       with_reducible refine HC.out.mono ?_
                       rintro e w' ⟨rfl,hB8⟩
                       simp only
                       refine hK _ _ ?_
                       exact ⟨below_tr hI hB8,fun h => (f0 h).below hB8,fun h => (f1 h).below hB8,fun h => (f2 h).below hB8,fun h => (f3 h).below hB8,fun _ => rfl,f5,f6,f7,f8,f9⟩
                      ·intro L x a wR K hL hd hf hx hΦ hK
                       obtain ⟨hI,f0,f1,f2,f3,f4,f5,f6,f7,f8,f9⟩:=hΦ
                       refine ⟨fun _ => ?_,fun h => absurd h (by rw [Go.RE.wanted_none rfl]; decide)⟩
                       have d4:=f4 (hd 4 (by kernel_rfl))
                       have e244:a.tmps[244]? = some (x 244):=hx 4 _ 244 rfl rfl (hd 4 (by kernel_rfl))
                       rw [d4] at e244
                       clear hf hx hd
                       go_simp
                       refine hK _ _ ?_
                       exact ⟨hI,f0,f1,f2,f3,f4,fun _ => rfl,f6,f7,f8,f9⟩
                      ·intro L x a wR K hL hd hf hx hΦ hK
                       obtain ⟨hI,f0,f1,f2,f3,f4,f5,f6,f7,f8,f9⟩:=hΦ
                       refine ⟨fun _ => ?_,fun h => absurd h (by rw [Go.RE.wanted_none rfl]; decide)⟩
                       have d5:=f5 (hd 5 (by kernel_rfl))
                       have e239:a.tmps[239]? = some (x 239):=hx 5 _ 239 rfl rfl (hd 5 (by kernel_rfl))
                       rw [d5] at e239
                       clear hf hx hd
                       go_simp
                       refine hK _ _ ?_
                       exact ⟨hI,f0,f1,f2,f3,f4,f5,fun _ => rfl,f7,f8,f9⟩
                      ·intro L x a wR K hL hd hf hx hΦ hK
                       obtain ⟨hI,f0,f1,f2,f3,f4,f5,f6,f7,f8,f9⟩:=hΦ
                       refine ⟨fun _ => ?_,fun h => absurd h (by rw [Go.RE.wanted_none rfl]; decide)⟩
                       have d5:=f5 (hd 5 (by kernel_rfl))
                       have e239:a.tmps[239]? = some (x 239):=hx 5 _ 239 rfl rfl (hd 5 (by kernel_rfl))
                       rw [d5] at e239
                       clear hf hx hd
                       go_simp
                       refine hK _ _ ?_
                       exact ⟨hI,f0,f1,f2,f3,f4,f5,f6,fun _ => rfl,f8,f9⟩
                      ·intro L x a wR K hL hd hf hx hΦ hK
                       obtain ⟨hI,f0,f1,f2,f3,f4,f5,f6,f7,f8,f9⟩:=hΦ
                       refine ⟨fun _ => ?_,fun h => absurd h (by rw [Go.RE.wanted_none rfl]; decide)⟩
                       have d6:=f6 (hd 6 (by kernel_rfl))
                       have e245:a.tmps[245]? = some (x 245):=hx 6 _ 245 rfl rfl (hd 6 (by kernel_rfl))
                       rw [d6] at e245
                       clear hf hx hd
                       go_simp
                       refine hK _ _ ?_
                       exact ⟨hI,f0,f1,f2,f3,f4,f5,f6,f7,fun _ => rfl,f9⟩
                      ·intro L x a wR K hL hd hf hx hΦ hK
                       obtain ⟨hI,f0,f1,f2,f3,f4,f5,f6,f7,f8,f9⟩:=hΦ
                       refine ⟨fun _ => ?_,fun h => absurd h (by rw [Go.RE.wanted_none rfl]; decide)⟩
                       have d7:=f7 (hd 7 (by kernel_rfl))
                       have e246:a.tmps[246]? = some (x 246):=hx 7 _ 246 rfl rfl (hd 7 (by kernel_rfl))
                       rw [d7] at e246
                       clear hf hx hd
                       go_simp
                       refine hK _ _ ?_
                       exact ⟨hI,f0,f1,f2,f3,f4,f5,f6,f7,f8,fun _ => rfl⟩
                      ·rintro x W ⟨hI,f0,f1,f2,f3,f4,f5,f6,f7,f8,f9⟩
                       simp only [Exit.then]
                       go_step
                       go_meet
                       exact ⟨f9 rfl,hI⟩
                     case rest =>
                      obtain ⟨rfl,hB⟩:=hcut
                      replace HM13:=hid (HM13.out.below hB)
                      replace HM11:=hid (HM11.out.below hB)
                      replace HF12:=hid (HF12.out.below hB)
                      replace HRW:=hid (HRW.out.below hB)
                      replace HBL:=hid (below_tr HBL.out hB)
                      obtain ⟨q19,hq19⟩:∃ q:World,q = wc:=⟨_,rfl⟩
                      subst hq19
                      clear hB
                      go_upto_region 44 with (fail)
                      go_cut [46,47] from 247 to 252 (fun v46 v47 wx => v47 = .int .i64 6 /\ Below q19.heap.size q19 wx)
                      case first =>
                       have hc:=nth_er1 q19 nn HNI.out
                       unfold RetEr at hc
                       have HC:=hid hc
                       clear hc
                       go_wp2_with (go_at_call 33; ((with_reducible refine HC.out.mono ?_); rintro e w' ⟨rfl,hB⟩))
                       go_meet
                       exact ⟨rfl,below_tr hB (below_alloc _ _)⟩
                      case rest =>
                       obtain ⟨rfl,hB⟩:=hcut
                       replace HM13:=hid (HM13.out.below hB)
                       replace HM11:=hid (HM11.out.below hB)
                       replace HF12:=hid (HF12.out.below hB)
                       replace HRW:=hid (HRW.out.below hB)
                       replace HBL:=hid (below_tr HBL.out hB)
                       obtain ⟨q20,hq20⟩:∃ q:World,q = wc:=⟨_,rfl⟩
                       subst hq20
                       clear hB
                       obtain ⟨mk,mz,lp,r0,r1,r2,t0,t1,t2,u0,u1,u2,b0,b1,b2,hb,h2,h3,h5,h4⟩:=HM13.out
                       have cc:=HK.blk_cell hb
                       have c0:=cc 0
                       have c1:=cc 1
                       have c2:=cc 2
                       have c3:=cc 3
                       have c4:=cc 4
                       have c5:=cc 5
                       have c6:=cc 6
                       clear cc
                       have hvd:=valid_of (W:=q20) ⟨mk,mz,lp,r0,r1,r2,t0,t1,t2,u0,u1,u2,b0,b1,b2,rfl,h2,h3,h5,h4⟩ HNO.out
                       unfold RetW at hvd
                       have HV13:=hid hvd
                       clear hvd h2 h3 h5 h4 hb
                       obtain ⟨mk',mz',lp',r0',r1',r2',t0',t1',t2',u0',u1',u2',b0',b1',b2',hb',h2',h3',h5',h4'⟩:=HM11.out
                       have hvd:=valid_of (W:=q20) ⟨mk',mz',lp',r0',r1',r2',t0',t1',t2',u0',u1',u2',b0',b1',b2',rfl,h2',h3',h5',h4'⟩ HMOK.out
                       unfold RetW at hvd
                       have HV11:=hid hvd
                       have HX11:=hid hb'
                       clear hvd h2' h3' h5' h4' hb'
                       go_wp2_with (first | (go_at_call 18; (with_reducible refine (HV13.out _ (Below.refl _ _)).mono ?_); rintro e w1 ⟨rfl,hB⟩; have HBw1:=hid hB; have hb:=blk_up9 hB HX11.out; have cc:=HK.blk_cell hb; have m0:=cc 0; have m1:=cc 1; have m2:=cc 2; have m3:=cc 3; have m4:=cc 4; have m5:=cc 5; have m6:=cc 6; clear cc hb hB) | (go_at_call 18; (with_reducible refine (HV11.out _ HBw1.out).mono ?_); rintro e w2 ⟨rfl,hB⟩; have HBw2:=hid (below_tr HBw1.out hB); clear hB; obtain ⟨o,nm,a0,a1,a2,s0,s1,s2,hb,h2,h3,h4⟩:=HF12.out.below HBw2.out; have cc:=HK.blk_cell hb; have c0:=cc 0; have c1:=cc 1; have c2:=cc 2; have c3:=cc 3; clear cc; have hbs:=build1 h2 h3 h4; have hab:=below_alloc w2 (.cells #[.int .u8 (o:Int),.string nm,.slice a0 a1 a2,.slice s0 s1 s2] 35); have HC15:Hid (Calls Tryd.prog 15 #[.int .u8 11,.slice (some ⟨w2.heap.size,0,none⟩) 1 1] _ fun e w' => e = .returned (.agg #[.int .u8 11,.string ⟨#[]⟩,.slice none 0 0,.slice (some ⟨w2.heap.size,0,none⟩) 1 1]) /\ IsFv w' (.agg #[.int .u8 11,.string ⟨#[]⟩,.slice none 0 0,.slice (some ⟨w2.heap.size,0,none⟩) 1 1]) (.mk 11 ⟨#[]⟩ [] [ff]) /\ Below _ _ w'):=hid (joinv (op:=11) (by omega) hbs); have HABw2:=hid hab; clear hbs hab hb h2 h3 h4) | (go_at_call 15; (with_reducible refine HC15.out.mono ?_); rintro e w3 ⟨rfl,hfv,hB⟩; have HBw3:=hid (below_tr HBw2.out (below_tr HABw2.out hB)); have hc:Calls Tryd.prog 37 #[.int .u8 3,_] w3 _:=rightMv hfv 3 (.inl rfl) (HRW.out.below HBw3.out) (by have:=HPL.out; simp only [nodesF,nodesTs,nodesT,nodesL] at *; omega); rw [no_dia] at hc; unfold RetW at hc; have HC37:=hid hc; clear hc hfv hB) | (go_at_call 37; (with_reducible refine HC37.out.mono ?_); rintro e w4 ⟨rfl,hB⟩; have HBw4:=hid (below_tr HBw3.out hB); clear hB; obtain ⟨o',nm',a0',a1',a2',s0',s1',s2',hb',h2',h3',h4'⟩:=HF12.out.below HBw4.out; have cc:=HK.blk_cell hb'; have c0':=cc 0; have c1':=cc 1; have c2':=cc 2; have c3':=cc 3; clear cc; have hbs:=build1 h2' h3' h4'; have hab:=below_alloc w4 (.cells #[.int .u8 (o':Int),.string nm',.slice a0' a1' a2',.slice s0' s1' s2'] 35); have HD15:Hid (Calls Tryd.prog 15 #[.int .u8 11,.slice (some ⟨w4.heap.size,0,none⟩) 1 1] _ fun e w' => e = .returned (.agg #[.int .u8 11,.string ⟨#[]⟩,.slice none 0 0,.slice (some ⟨w4.heap.size,0,none⟩) 1 1]) /\ IsFv w' (.agg #[.int .u8 11,.string ⟨#[]⟩,.slice none 0 0,.slice (some ⟨w4.heap.size,0,none⟩) 1 1]) (.mk 11 ⟨#[]⟩ [] [ff]) /\ Below _ _ w'):=hid (joinv (op:=11) (by omega) hbs); have HABw4:=hid hab; clear hbs hab hb' h2' h3' h4') | (go_at_call 15; (with_reducible refine HD15.out.mono ?_); rintro e w5 ⟨rfl,hfv,hB⟩; have HBw5:=hid (below_tr HBw4.out (below_tr HABw4.out hB)); have hc:Calls Tryd.prog 37 #[.int .u8 4,_] w5 _:=rightMv hfv 4 (.inr rfl) (HRW.out.below HBw5.out) (by have:=HPL.out; simp only [nodesF,nodesTs,nodesT,nodesL] at *; omega); rw [yes_dia HPL.out.1 HPL.out.2.1 HPL.out.2.2] at hc; unfold RetW at hc; have HD37:=hid hc; clear hc hfv hB) | (go_at_call 37; (with_reducible refine HD37.out.mono ?_); rintro e w6 ⟨rfl,hB⟩; have HBw6:=hid (below_tr HBw5.out hB); clear hB))
                       go_ret
                       exact ⟨rfl,below_tr HBL.out HBw6.out⟩
end Go.Proofs.YtflmllablfjfeaaDoor
