import Derived.Test.YtdobflpbkfkmgaaGreatDoorR5e
namespace Go.Proofs.YtdobflpbkfkmgaaGreatDoor
open Go.RowKit Go.HK Go.FR Lib
set_option linter.unusedVariables false
set_option linter.unusedSimpArgs false
set_option linter.unusedSectionVars false
theorem heap3 {w:World} {b B:Nat} (hn:B ≠ b) (v0 v1 v2:Value):(((w.setCell ⟨b,0,none⟩ v0).setCell ⟨b,1,none⟩ v1).setCell ⟨b,2,none⟩ v2).heap[B]? = w.heap[B]?:=by
 rw [Below.heap_setCell _ _ _ _ (by simpa using hn),Below.heap_setCell _ _ _ _ (by simpa using hn),Below.heap_setCell _ _ _ _ (by simpa using hn)]
theorem below3 {a w:World} {B b:Nat} (h:Below B a w) (hb:B <= b) (v0 v1 v2:Value):Below B a (((w.setCell ⟨b,0,none⟩ v0).setCell ⟨b,1,none⟩ v1).setCell ⟨b,2,none⟩ v2):=((h.setCell (p:=⟨b,0,none⟩) hb _).setCell (p:=⟨b,1,none⟩) hb _).setCell (p:=⟨b,2,none⟩) hb _
theorem size3 {w:World} {b:Nat} (v0 v1 v2:Value):(((w.setCell ⟨b,0,none⟩ v0).setCell ⟨b,1,none⟩ v1).setCell ⟨b,2,none⟩ v2).heap.size = w.heap.size:=by simp
set_option maxRecDepth 100000 in
set_option maxHeartbeats 8000000 in
theorem rterm5_of {ts:List Tok} {z g n:Nat} (hA:LA ts z g n):LT ts z g (n + 1):=by
 intro k s x hr w o nn c hT hS hsk
 unfold run at hr
 have hz6:=hT.ok.le
 have s6:(s:Int) <= 100000:=by have:=hS.hk; omega
 have s0:(0:Int) <= (s:Int):=by omega
 have HT:=hid hT
 have HS0:=hid hS
 have HSK:=hid hsk
 have HAA:=hid hA
 have hz0:=HK.blk_new w (.cells #[.bool false,.string ⟨#[]⟩,.slice none 0 0] 36)
 have HZ0:=hid hz0
 clear hT hS hsk hA hz6 hz0
 by_cases hs:120 < s
 case pos =>
  rw [if_pos hs] at hr
  have HX:Hid (x = .bad k 51):=hid (by cases hr; rfl)
  have hsi:(120:Int) < (s:Int):=by omega
  clear hr hs
  go_enter Tryz.func36,Tryz.ntmps36
  go_wp2_with (fail)
  refine bodyPost_ret (results_c1t2 (p:=4) (u:=5) (v:=6) (ty:=36) (by kernel_rfl) _ _ w.heap.size 36 _ (0,0) _ _ _ rfl rfl rfl (HK.blk_new w (.cells #[.bool false,.string ⟨#[]⟩,.slice none 0 0] 36)) Tryz.underlying36 rfl (by kernel_rfl)) rfl ?_
  exact ⟨bl_al9 _,_,_,_,_,_,_,_,_,_,rfl,by rw [HX.out]; rfl,by rw [HX.out]; exact HS0.out,fun ob' k' h => by rw [HX.out] at h; cases h⟩
 rw [if_neg hs] at hr
 have hsi:¬ (120:Int) < (s:Int):=by omega
 clear hs
 have htm:=rmt_call (HT.out.up (bl_al9 (.cells #[.bool false,.string ⟨#[]⟩,.slice none 0 0] 36))) HS0.out
 have HTM:=hid htm
 clear htm
 obtain ⟨t0,t1,tk,tz,tn⟩:=(HT.out.up (bl_al9 (.cells #[.bool false,.string ⟨#[]⟩,.slice none 0 0] 36))).cells HS0.out
 obtain ⟨nm,hnm⟩:∃ q,q = (tkA ts k).t:=⟨_,rfl⟩
 have hnz:nm.size <= maxLen:=by rw [hnm]; have:maxLen = 9223372036854775807:=rfl; omega
 have HNZ:=hid hnz
 have hvc:=fun (W:World) => variable_call W nm hnz
 have hfc:=fun (W:World) => function_callr W nm hnz
 obtain ⟨q,hqv⟩:∃ q,q = checkB varB digitB nm:=⟨_,rfl⟩
 obtain ⟨q2,hqf⟩:∃ q,q = checkB funB alnumB nm:=⟨_,rfl⟩
 obtain ⟨kk,hkk⟩:∃ q,q = (tkA ts k).k:=⟨_,rfl⟩
 have hiv:isVar ts k = (decide (kk = 1) && q):=by unfold isVar; rw [hkk,hqv,hnm]
 have hif:isFun ts k = (decide (kk = 1) && q2):=by unfold isFun; rw [hkk,hqf,hnm]
 rw [<- hqv] at hvc
 rw [<- hqf] at hfc
 rw [<- hnm] at t1 hr
 rw [<- hkk] at t0 hr
 have HVC:=hid hvc
 have HFC:=hid hfc
 have HIV:=hid hiv
 have HIF:=hid hif
 have HKK:=hid hkk
 have HNM:=hid hnm
 clear hvc hqv hqf hiv hif hfc tk tz hnz hnm
 by_cases htm:isTM true ts k = true
 case pos =>
  have hk2:kk = 2:=by rw [hkk]; unfold isTM at htm; simp only [Bool.and_eq_true,decide_eq_true_iff] at htm; exact htm.1
  rw [if_pos hk2,if_pos htm] at hr
  have HX:Hid (x = .ok (.t (Va nm)) (k + 1)):=hid (by cases hr; rfl)
  have hk0:k < z:=HT.out.ok.en.ltk HS0.out.hk (isTM_k htm)
  rw [htm] at HTM
  obtain ⟨hs1,a1,b1,d1,e1,f1⟩:=SlT'.next HS0.out hk0
  have HS1:=hid hs1
  clear hs1
  clear hr htm hk2 hk0 hkk
  go_enter Tryz.func36,Tryz.ntmps36
  go_upto_region 4 with (first | (go_at_call 65; ((with_reducible refine HTM.out.mono ?_); rintro _ w9 ⟨rfl,rfl⟩)) | (go_at_call 66; ((with_reducible refine (HVC.out _).mono ?_); rintro _ w9 ⟨rfl,rfl⟩)) | (go_at_call 67; ((with_reducible refine (HFC.out _).mono ?_); rintro _ w9 ⟨rfl,rfl⟩)))
  go_region
  all_goals (
   go_wp2_with (fail)
   refine bodyPost_ret (results_c1t2 (p:=4) (u:=5) (v:=6) (ty:=36) (by kernel_rfl) _ _ w.heap.size 36 _ (0,0) _ _ _ rfl rfl rfl (HK.blk_drew (HK.blk_new w _)) Tryz.underlying36 rfl (by kernel_rfl)) rfl ?_
   refine ⟨bl_dr9 (bl_al9 _),_,_,_,_,_,_,_,_,_,rfl,by rw [HX.out]; rfl,by rw [HX.out]; exact HS1.out,fun ob' k' h => ?_⟩
   rw [HX.out] at h
   cases h
   exact ⟨rfl,rfl,HNZ.out,.nil _ _⟩)
 rw [show isTM true ts k = false by simpa using htm] at HTM
 clear hkk
 by_cases hk1:kk = 1
 case neg =>
  have HX:Hid (x = .bad k 50):=hid (by
   by_cases h2:kk = 2
   ·rw [if_pos h2,if_neg htm] at hr; cases hr; rfl
   ·rw [if_neg h2,if_neg (by rw [HIV.out,decide_eq_false hk1]; simp),if_neg (by rw [HIF.out,decide_eq_false hk1]; simp)] at hr; cases hr; rfl)
  have e1:(kk == 1) = false:=by simpa using hk1
  have e2:(kk != 1) = true:=by simpa using hk1
  clear hk1 hr htm
  go_enter Tryz.func36,Tryz.ntmps36
  go_wp2_with (first | (go_at_call 65; ((with_reducible refine HTM.out.mono ?_); rintro _ w9 ⟨rfl,rfl⟩)) | (go_at_call 66; ((with_reducible refine (HVC.out _).mono ?_); rintro _ w9 ⟨rfl,rfl⟩)) | (go_at_call 67; ((with_reducible refine (HFC.out _).mono ?_); rintro _ w9 ⟨rfl,rfl⟩)))
  refine bodyPost_ret (results_c1t2 (p:=4) (u:=5) (v:=6) (ty:=36) (by kernel_rfl) _ _ w.heap.size 36 _ (0,0) _ _ _ rfl rfl rfl (HK.blk_new w (.cells #[.bool false,.string ⟨#[]⟩,.slice none 0 0] 36)) Tryz.underlying36 rfl (by kernel_rfl)) rfl ?_
  exact ⟨bl_al9 _,_,_,_,_,_,_,_,_,_,rfl,by rw [HX.out]; rfl,by rw [HX.out]; exact HS0.out,fun ob' k' h => by rw [HX.out] at h; cases h⟩
 subst hk1
 clear htm
 rw [if_neg (by omega),HIV.out,HIF.out] at hr
 have hk0:k < z:=HT.out.ok.en.ltk HS0.out.hk (by rw [<- HKK.out]; decide)
 obtain ⟨hs1,a1,b1,d1,e1,f1⟩:=SlT'.next HS0.out hk0
 have HS1:=hid hs1
 clear hs1
 rcases q with _ | _
 case true =>
  rw [if_pos (by simp)] at hr
  have HX:Hid (x = .ok (.t (Va nm)) (k + 1)):=hid (by cases hr; rfl)
  clear hr hk0
  go_enter Tryz.func36,Tryz.ntmps36
  go_upto_region 4 with (first | (go_at_call 65; ((with_reducible refine HTM.out.mono ?_); rintro _ w9 ⟨rfl,rfl⟩)) | (go_at_call 66; ((with_reducible refine (HVC.out _).mono ?_); rintro _ w9 ⟨rfl,rfl⟩)) | (go_at_call 67; ((with_reducible refine (HFC.out _).mono ?_); rintro _ w9 ⟨rfl,rfl⟩)))
  go_region
  all_goals (
   go_wp2_with (fail)
   refine bodyPost_ret (results_c1t2 (p:=4) (u:=5) (v:=6) (ty:=36) (by kernel_rfl) _ _ w.heap.size 36 _ (0,0) _ _ _ rfl rfl rfl (HK.blk_drew (HK.blk_new w _)) Tryz.underlying36 rfl (by kernel_rfl)) rfl ?_
   refine ⟨bl_dr9 (bl_al9 _),_,_,_,_,_,_,_,_,_,rfl,by rw [HX.out]; rfl,by rw [HX.out]; exact HS1.out,fun ob' k' h => ?_⟩
   rw [HX.out] at h
   cases h
   exact ⟨rfl,rfl,HNZ.out,.nil _ _⟩)
 rw [if_neg (by simp)] at hr
 rcases q2 with _ | _
 case false =>
  rw [if_neg (by simp)] at hr
  have HX:Hid (x = .bad k 50):=hid (by cases hr; rfl)
  clear hr hk0 a1 b1 d1 e1 f1
  go_enter Tryz.func36,Tryz.ntmps36
  go_wp2_with (first | (go_at_call 65; ((with_reducible refine HTM.out.mono ?_); rintro _ w9 ⟨rfl,rfl⟩)) | (go_at_call 66; ((with_reducible refine (HVC.out _).mono ?_); rintro _ w9 ⟨rfl,rfl⟩)) | (go_at_call 67; ((with_reducible refine (HFC.out _).mono ?_); rintro _ w9 ⟨rfl,rfl⟩)))
  refine bodyPost_ret (results_c1t2 (p:=4) (u:=5) (v:=6) (ty:=36) (by kernel_rfl) _ _ w.heap.size 36 _ (0,0) _ _ _ rfl rfl rfl (HK.blk_new w (.cells #[.bool false,.string ⟨#[]⟩,.slice none 0 0] 36)) Tryz.underlying36 rfl (by kernel_rfl)) rfl ?_
  exact ⟨bl_al9 _,_,_,_,_,_,_,_,_,_,rfl,by rw [HX.out]; rfl,by rw [HX.out]; exact HS0.out,fun ob' k' h => by rw [HX.out] at h; cases h⟩
 rw [if_pos (by simp)] at hr
 obtain ⟨y,hy,hyx⟩:∃ y,run true ts n .args (k + 1) s = some y /\ ((∃ ob k2,y = .ok ob k2 /\ x = .ok (.t (.mk false nm (tsO ob))) k2) ∨ (∃ k2 e,y = .bad k2 e /\ x = .bad k2 e)):=by
  rcases thenO_some hr with ⟨ob,k2,h1,h2⟩ | ⟨k2,e,h1,h2⟩
  ·exact ⟨_,h1,.inl ⟨ob,k2,rfl,by cases h2; rfl⟩⟩
  ·exact ⟨_,h1,.inr ⟨k2,e,rfl,h2⟩⟩
 have hc2:=HAA.out (k + 1) s y hy (w.alloc (.cells #[.bool false,.string ⟨#[]⟩,.slice none 0 0] 36)) (o + 3) (nn - 1) (c - 1) (HT.out.up (bl_al9 _)) HS1.out (by have:=HSK.out; omega)
 unfold RetRA at hc2
 have HC2:=hid hc2
 have HYX:=hid hyx
 clear hr hy hyx hc2 hk0
 go_enter Tryz.func36,Tryz.ntmps36
 go_upto_region 7 with (first | (go_at_call 65; ((with_reducible refine HTM.out.mono ?_); rintro _ w9 ⟨rfl,rfl⟩)) | (go_at_call 66; ((with_reducible refine (HVC.out _).mono ?_); rintro _ w9 ⟨rfl,rfl⟩)) | (go_at_call 67; ((with_reducible refine (HFC.out _).mono ?_); rintro _ w9 ⟨rfl,rfl⟩)))
 go_wp2_with (fail)
 go_at_call 68
 with_reducible refine HC2.out.mono ?_
 rintro _ w2 ⟨hB2,ra,rb,rc,o2,n2,c2,e2,rfl,her2,hsl2,hts2⟩
 have HE2:=hid her2
 have HSL:=hid hsl2
 have HTS:=hid hts2
 have hBa:=(bl_al9 (W:=w) (.cells #[.bool false,.string ⟨#[]⟩,.slice none 0 0] 36)).trans (hB2.mono (bl_al9 (W:=w) (.cells #[.bool false,.string ⟨#[]⟩,.slice none 0 0] 36)).size)
 have HBW:=hid hBa
 have hz:=(hB2.block _ (HK.blk_lt HZ0.out)).trans HZ0.out
 have HZ:=hid hz
 clear her2 hsl2 hts2 hBa hB2 a1 b1 d1 e1 f1 t0 t1 tn
 have ht:=(HT.out.up HBW.out).cells HS0.out
 rw [<- HKK.out,<- HNM.out] at ht
 obtain ⟨t0,t1,_,_,tn⟩:=ht
 have u0:=HK.blk_cell hz 0
 have u1:=HK.blk_cell hz 1
 have u2:=HK.blk_cell hz 2
 have uf:=fun i => HK.blk_frozen hz i
 clear hz
 go_wp2_with (fail)
 refine bodyPost_ret (results_c1t2 (p:=4) (u:=5) (v:=6) (ty:=36) (by kernel_rfl) _ _ w.heap.size 36 _ (0,0) _ _ _ rfl rfl rfl (pset3 HZ.out _ _ _) Tryz.underlying36 rfl (by kernel_rfl)) rfl ?_
 have hstate:e2 = erO x /\ plO x = plO y:=by
  rcases HYX.out with ⟨ob2,k2,hy,hx⟩ | ⟨k2,e,hy,hx⟩
  ·exact ⟨by rw [HE2.out,hy,hx] <;> rfl,by rw [hy,hx] <;> rfl⟩
  ·exact ⟨by rw [HE2.out,hy,hx] <;> rfl,by rw [hy,hx] <;> rfl⟩
 refine ⟨below3 HBW.out (Nat.le_refl _) _ _ _,_,_,_,_,_,_,_,_,_,rfl,hstate.1,by rw [hstate.2]; exact HSL.out,fun ob' k' h => ?_⟩
 rcases HYX.out with ⟨ob2,k2,hy,hx⟩ | ⟨k2,e,hy,hx⟩
 ·rw [hx] at h
  cases h
  refine ⟨rfl,rfl,HNZ.out,(HTS.out ob2 _ hy).turn fun j hj => ?_⟩
  have h1:=hj.1
  simp only [World.size_alloc] at h1
  exact ⟨⟨by omega,by rw [size3]; exact hj.2⟩,heap3 (by omega) _ _ _⟩
 ·rw [hx] at h; cases h
end Go.Proofs.YtdobflpbkfkmgaaGreatDoor
