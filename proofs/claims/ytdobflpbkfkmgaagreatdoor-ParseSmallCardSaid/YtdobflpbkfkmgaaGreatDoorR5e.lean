import Derived.Test.YtdobflpbkfkmgaaGreatDoorR5d
namespace Go.Proofs.YtdobflpbkfkmgaaGreatDoor
open Go.RowKit Go.HK Go.FR Lib
set_option linter.unusedVariables false
set_option linter.unusedSimpArgs false
set_option linter.unusedSectionVars false
set_option maxRecDepth 100000 in
set_option maxHeartbeats 8000000 in
theorem rbasic_of {ts:List Tok} {z g n:Nat} (hF:LC ts z g n 43 (.bin 0)) (hA:LA ts z g n):LC ts z g (n + 1) 140 .basic:=by
 intro k s x hr w o nn c hT hS hsk
 unfold run at hr
 have hz6:=hT.ok.le
 have s6:(s:Int) <= 100000:=by have:=hS.hk; omega
 have s0:(0:Int) <= (s:Int):=by omega
 have HT:=hid hT
 have HS0:=hid hS
 have HSK:=hid hsk
 have HFF:=hid hF
 have HAA:=hid hA
 have hz0:=HK.blk_new w (.cells #[.int .u8 0,.string ⟨#[]⟩,.slice none 0 0,.slice none 0 0] 28)
 have HZ0:=hid hz0
 have hg:=rsg_call (HT.out.up (bl_al9 (.cells #[.int .u8 0,.string ⟨#[]⟩,.slice none 0 0,.slice none 0 0] 28))) HS0.out ⟨#[40]⟩ (by unfold Sg; decide)
 rw [show bys (⟨#[40]⟩:ByteArray) = [40] from rfl] at hg
 have HG0:=hid hg
 clear hg
 have hg:=rsg_call (HT.out.up (bl_al9 (.cells #[.int .u8 0,.string ⟨#[]⟩,.slice none 0 0,.slice none 0 0] 28))) HS0.out ⟨#[102,97,108,115,101]⟩ (by unfold Sg; decide)
 rw [show bys (⟨#[102,97,108,115,101]⟩:ByteArray) = [102,97,108,115,101] from rfl] at hg
 have HG1:=hid hg
 clear hg
 clear hT hS hsk hF hA hz6 hz0
 by_cases h40:txt ts k = [40]
 case pos =>
  rw [if_pos h40] at hr
  rw [decide_eq_true h40] at HG0
  have hk0:k < z:=HT.out.ok.en.lt HS0.out.hk (by rw [h40]; decide)
  obtain ⟨hs1,a1,b1,d1,e1,f1⟩:=SlT'.next HS0.out hk0
  have HS1:=hid hs1
  clear hs1
  obtain ⟨y,hy,hyx⟩:∃ y,run true ts n (.bin 0) (k + 1) (s + 1) = some y /\ ((∃ ob k2,y = .ok ob k2 /\ (if txt ts k2 = [41] then some (Ot.ok (.fm (fmO ob)) (k2 + 1)) else some (Ot.bad k2 50)) = some x) ∨ (∃ k2 e,y = .bad k2 e /\ x = .bad k2 e)):=by
   rcases thenO_some hr with ⟨ob,k2,h1,h2⟩ | ⟨k2,e,h1,h2⟩
   ·exact ⟨_,h1,.inl ⟨ob,k2,rfl,h2⟩⟩
   ·exact ⟨_,h1,.inr ⟨k2,e,rfl,h2⟩⟩
  have hin:=run_iz HT.out.ok.en n _ _ _ _ hk0 hy
  have hc2:=HFF.out (k + 1) (s + 1) y hy (w.alloc (.cells #[.int .u8 0,.string ⟨#[]⟩,.slice none 0 0,.slice none 0 0] 28)) (o + 3) (nn - 1) (c - 1) (HT.out.up (bl_al9 _)) HS1.out (by have:=HSK.out; omega)
  simp only [show (((s + 1:Nat)):Int) = (s:Int) + 1 from rfl] at hc2
  unfold RetRF at hc2
  have HC2:=hid hc2
  have HYX:=hid hyx
  have HIN:=hid hin
  clear hr hy hyx hc2 hk0 h40 hin
  go_enter Tryz.func140,Tryz.ntmps140
  go_upto_region 2 with ((go_at_call 44; ((with_reducible refine HG0.out.mono ?_); rintro _ w9 ⟨rfl,rfl⟩)))
  go_wp2_with (fail)
  go_at_call 43
  with_reducible refine HC2.out.mono ?_
  rintro _ w2 ⟨hB2,ro,rn,ra,rb,rc,rd,re,rf,o2,n2,c2,e2,rfl,her2,hsl2,hfm2⟩
  have HE2:=hid her2
  have HSL:=hid hsl2
  have HF2:=hid hfm2
  have hk7:=HK.blk_new w2 (.cells #[.int .u8 ro,.string rn,.slice ra rb rc,.slice rd re rf] 28)
  have hz:=HK.blk_alloc ((hB2.block _ (HK.blk_lt HZ0.out)).trans HZ0.out) (.cells #[.int .u8 ro,.string rn,.slice ra rb rc,.slice rd re rf] 28)
  have hBa:=(bl_al9 (W:=w) (.cells #[.int .u8 0,.string ⟨#[]⟩,.slice none 0 0,.slice none 0 0] 28)).trans (hB2.mono (bl_al9 (W:=w) (.cells #[.int .u8 0,.string ⟨#[]⟩,.slice none 0 0,.slice none 0 0] 28)).size)
  have HBW:=hid (hBa.alloc hBa.size (.cells #[.int .u8 ro,.string rn,.slice ra rb rc,.slice rd re rf] 28))
  have h22:=hB2.size
  simp only [World.size_alloc] at h22
  have H22:=hid h22
  clear her2 hsl2 hfm2 hBa hB2 h22 a1 b1 d1 e1 f1
  go_upto_region 3 with (fail)
  obtain ⟨b7,hb7⟩:∃ b,b = w2.heap.size:=⟨_,rfl⟩
  rw [<- hb7] at hk7 ⊢
  obtain ⟨w3,hw3⟩:∃ x,x = w2.alloc (.cells #[.int .u8 ro,.string rn,.slice ra rb rc,.slice rd re rf] 28):=⟨_,rfl⟩
  rw [<- hw3] at hk7 hz HBW ⊢
  have HW3:=hid hw3
  have HB7:=hid hb7
  have HZ:=hid hz
  clear hw3 hb7
  have y0:=HK.blk_cell hk7 0
  have y1:=HK.blk_cell hk7 1
  have y2:=HK.blk_cell hk7 2
  have y3:=HK.blk_cell hk7 3
  have u0:=HK.blk_cell hz 0
  have u1:=HK.blk_cell hz 1
  have u2:=HK.blk_cell hz 2
  have u3:=HK.blk_cell hz 3
  have uf:=fun i => HK.blk_frozen hz i
  clear hk7 hz
  rcases HYX.out with ⟨ob,k2,hy,hx⟩ | ⟨k2,e,hy,hx⟩
  case inr =>
   have HX:=hid hx
   have he:e = 50 ∨ e = 51:=by
    have h1:=HIN.out
    rw [hy] at h1
    exact h1.2.2
   have he2:e2 = (e:Int):=by rw [HE2.out,hy]; rfl
   have hsl:=HSL.out
   rw [hy] at hsl
   have HSL':=hid hsl
   have hen:((e:Int) == 0) = false:=by simp; omega
   have hen2:((e:Int) != 0) = true:=by simp; omega
   subst he2
   clear hx hy he hsl HE2
   go_wp2_with (fail)
   refine bodyPost_ret (results_c1t2 (p:=4) (u:=5) (v:=6) (ty:=28) (by kernel_rfl) _ _ w.heap.size 28 _ (0,0) _ _ _ rfl rfl rfl (pset4 HZ.out _ _ _ _) Tryz.underlying28 rfl (by kernel_rfl)) rfl ?_
   exact ⟨below4 HBW.out (Nat.le_refl _) _ _ _ _,_,_,_,_,_,_,_,_,_,_,_,_,rfl,by rw [HX.out]; rfl,by rw [HX.out]; exact HSL'.out,fun ob' k' h => by rw [HX.out] at h; cases h⟩
  have he2:e2 = 0:=by rw [HE2.out,hy]; rfl
  subst he2
  have hsl:SlT' z k2 o2 n2 c2:=by have h:=HSL.out; rw [hy] at h; exact h
  have HSL':=hid hsl
  have hg:=rsg_call (HT.out.up HBW.out) HSL'.out ⟨#[41]⟩ (by unfold Sg; decide)
  rw [show bys (⟨#[41]⟩:ByteArray) = [41] from rfl] at hg
  have HG2:=hid hg
  clear hg
  have HY:=hid hy
  clear hsl hy
  by_cases h41:txt ts k2 = [41]
  case neg =>
   rw [if_neg h41] at hx
   have hx:x = .bad k2 50:=by cases hx; rfl
   have HX:=hid hx
   rw [decide_eq_false h41] at HG2
   clear hx h41
   go_wp2_with ((go_at_call 44; ((with_reducible refine HG2.out.mono ?_); rintro _ w9 ⟨rfl,rfl⟩)))
   refine bodyPost_ret (results_c1t2 (p:=4) (u:=5) (v:=6) (ty:=28) (by kernel_rfl) _ _ w.heap.size 28 _ (0,0) _ _ _ rfl rfl rfl (pset4 HZ.out _ _ _ _) Tryz.underlying28 rfl (by kernel_rfl)) rfl ?_
   exact ⟨below4 HBW.out (Nat.le_refl _) _ _ _ _,_,_,_,_,_,_,_,_,_,_,_,_,rfl,by rw [HX.out]; rfl,by rw [HX.out]; exact HSL'.out,fun ob' k' h => by rw [HX.out] at h; cases h⟩
  rw [if_pos h41] at hx
  have hx:x = .ok (.fm (fmO ob)) (k2 + 1):=by cases hx; rfl
  have HX:=hid hx
  rw [decide_eq_true h41] at HG2
  have hk2:k2 < z:=HT.out.ok.en.lt HSL'.out.hk (by show txt ts k2 ≠ []; rw [h41]; decide)
  obtain ⟨hs2,a2,b2,d2,e2,f2⟩:=SlT'.next HSL'.out hk2
  have HS2:=hid hs2
  clear hs2
  clear hx h41 hk2
  go_upto_region 7 with ((go_at_call 44; ((with_reducible refine HG2.out.mono ?_); rintro _ w9 ⟨rfl,rfl⟩)))
  go_region
  all_goals (
   go_wp2_with (fail)
   have hzd:=HK.blk_drew HZ.out
   refine bodyPost_ret (results_c1t2 (p:=4) (u:=5) (v:=6) (ty:=28) (by kernel_rfl) _ _ w.heap.size 28 _ (0,0) _ _ _ rfl rfl rfl (pset4 hzd _ _ _ _) Tryz.underlying28 rfl (by kernel_rfl)) rfl ?_
   refine ⟨below4 (bl_dr9 HBW.out) (Nat.le_refl _) _ _ _ _,_,_,_,_,_,_,_,_,_,_,_,_,rfl,by rw [HX.out]; rfl,by rw [HX.out]; exact HS2.out,fun ob' k' h => ?_⟩
   rw [HX.out] at h
   cases h
   have hq:=(HF2.out ob _ HY.out).turn (T:=RS w b7 w3) (W':=w3) fun j hj => by
    have h1:=hj.1
    have h2:=hj.2
    simp only [World.size_alloc] at h1
    have h7:=HB7.out
    have h3:w3.heap.size = w2.heap.size + 1:=by rw [HW3.out]; simp
    refine ⟨⟨by omega,by omega,by omega⟩,?_⟩
    rw [HW3.out,Below.heap_alloc _ _ _ h2]
   exact (fin_box hq (.int .u8 ro) (.string rn) (.slice ra rb rc) (.slice rd re rf)).turn fun j hj => ⟨hj,rfl⟩)
 rw [if_neg h40] at hr
 rw [decide_eq_false h40] at HG0
 by_cases hfa:txt ts k = [102,97,108,115,101]
 case pos =>
  rw [if_pos hfa] at hr
  have hx:x = .ok (.fm (.mk 2 emp [] [])) (k + 1):=by cases hr; rfl
  have HX:=hid hx
  rw [decide_eq_true hfa] at HG1
  have hk0:k < z:=HT.out.ok.en.lt HS0.out.hk (by rw [hfa]; decide)
  obtain ⟨hs1,a1,b1,d1,e1,f1⟩:=SlT'.next HS0.out hk0
  have HS1:=hid hs1
  clear hs1
  clear hr hx hfa h40 hk0
  go_enter Tryz.func140,Tryz.ntmps140
  go_upto_region 9 with (first | (go_at_call 44; ((with_reducible refine HG0.out.mono ?_); rintro _ w9 ⟨rfl,rfl⟩)) | (go_at_call 44; ((with_reducible refine HG1.out.mono ?_); rintro _ w9 ⟨rfl,rfl⟩)))
  go_region
  all_goals (
   go_wp2_with (fail)
   refine bodyPost_ret (results_c1t2 (p:=4) (u:=5) (v:=6) (ty:=28) (by kernel_rfl) _ _ w.heap.size 28 _ (0,0) _ _ _ rfl rfl rfl (HK.blk_drew (HK.blk_new w _)) Tryz.underlying28 rfl (by kernel_rfl)) rfl ?_
   refine ⟨bl_dr9 (bl_al9 _),_,_,_,_,_,_,_,_,_,_,_,_,rfl,by rw [HX.out]; rfl,by rw [HX.out]; exact HS1.out,fun ob' k' h => ?_⟩
   rw [HX.out] at h
   cases h
   exact nil_form _ _ 2 ⟨#[]⟩ (by omega) (by show (0:Nat) <= _; decide))
 rw [if_neg hfa] at hr
 rw [decide_eq_false hfa] at HG1
 clear h40 hfa
 have hrm:=rmf_call (HT.out.up (bl_al9 (.cells #[.int .u8 0,.string ⟨#[]⟩,.slice none 0 0,.slice none 0 0] 28))) HS0.out
 have HRM:=hid hrm
 clear hrm
 by_cases hfm:isFM true ts k = true
 case pos =>
  have hk2:(tkA ts k).k = 2:=by unfold isFM at hfm; simp only [Bool.and_eq_true,decide_eq_true_iff] at hfm; exact hfm.1
  rw [if_pos hk2] at hr
  have hx:x = metaP true ts k:=by cases hr; rfl
  have hb:=meta_call' (w.alloc (.cells #[.int .u8 0,.string ⟨#[]⟩,.slice none 0 0,.slice none 0 0] 28)) o nn c (HT.out.up (bl_al9 _)) HS0.out hfm
  rw [<- hx] at hb
  rw [hfm] at HRM
  unfold RetRF at hb
  have HBB:=hid hb
  clear hb hx hr hk2 hfm
  go_enter Tryz.func140,Tryz.ntmps140
  go_wp2_with (first | (go_at_call 44; ((with_reducible refine HG0.out.mono ?_); rintro _ w9 ⟨rfl,rfl⟩)) | (go_at_call 44; ((with_reducible refine HG1.out.mono ?_); rintro _ w9 ⟨rfl,rfl⟩)) | (go_at_call 142; ((with_reducible refine HRM.out.mono ?_); rintro _ w9 ⟨rfl,rfl⟩)))
  go_at_call 143
  with_reducible refine HBB.out.mono ?_
  rintro _ w2 ⟨hB2,po,pn,pa,pb,pc,pd,pe,pf,o1,m1,d1,e1,rfl,her,hsl,hfm⟩
  have HBW:=hid ((bl_al9 (W:=w) (.cells #[.int .u8 0,.string ⟨#[]⟩,.slice none 0 0,.slice none 0 0] 28)).trans (hB2.mono (bl_al9 (W:=w) (.cells #[.int .u8 0,.string ⟨#[]⟩,.slice none 0 0,.slice none 0 0] 28)).size))
  have hz:=(hB2.block _ (HK.blk_lt HZ0.out)).trans HZ0.out
  have HE:=hid her
  have HSL:=hid hsl
  have HF:=hid hfm
  have HZ:=hid hz
  have u0:=HK.blk_cell hz 0
  have u1:=HK.blk_cell hz 1
  have u2:=HK.blk_cell hz 2
  have u3:=HK.blk_cell hz 3
  have uf:=fun i => HK.blk_frozen hz i
  clear her hsl hfm hz hB2
  go_wp2_with (fail)
  refine bodyPost_ret (results_c1t2 (p:=4) (u:=5) (v:=6) (ty:=28) (by kernel_rfl) _ _ w.heap.size 28 _ (0,0) _ _ _ rfl rfl rfl (pset4 HZ.out _ _ _ _) Tryz.underlying28 rfl (by kernel_rfl)) rfl ?_
  exact ⟨below4 HBW.out (Nat.le_refl _) _ _ _ _,_,_,_,_,_,_,_,_,_,_,_,_,rfl,HE.out,HSL.out,fun ob' k' h => fin_box (b7:=w.heap.size + 1) ((HF.out ob' k' h).turn (T:=RS w (w.heap.size + 1) w2) fun j hj => by
   have h1:=hj.1
   simp only [World.size_alloc] at h1
   exact ⟨⟨by omega,hj.2,by omega⟩,rfl⟩) _ _ _ _⟩
 rw [show isFM true ts k = false by simpa using hfm] at HRM
 obtain ⟨t0,t1,tk,tz,tn⟩:=(HT.out.up (bl_al9 (.cells #[.int .u8 0,.string ⟨#[]⟩,.slice none 0 0,.slice none 0 0] 28))).cells HS0.out
 obtain ⟨nm,hnm⟩:∃ q,q = (tkA ts k).t:=⟨_,rfl⟩
 have hnz:nm.size <= maxLen:=by rw [hnm]; have:maxLen = 9223372036854775807:=rfl; omega
 have HNZ:=hid hnz
 have hvc:=fun (W:World) => predicate_call W nm hnz
 obtain ⟨q,hqv⟩:∃ q,q = checkB capB alnumB nm:=⟨_,rfl⟩
 obtain ⟨kk,hkk⟩:∃ q,q = (tkA ts k).k:=⟨_,rfl⟩
 have hiv:isPre ts k = (decide (kk = 1) && q):=by unfold isPre; rw [hkk,hqv,hnm]
 rw [<- hqv] at hvc
 rw [<- hnm] at t1 hr
 rw [<- hkk] at t0 hr
 have HBAD:Hid (kk = 2 -> x = .bad k 50):=hid fun h2 => by
  rw [if_pos h2] at hr
  have h3:metaP true ts k = .bad k 50:=by unfold metaP; rw [if_neg hfm]
  rw [h3] at hr
  cases hr; rfl
 have HNP:Hid (¬ kk = 2 -> ¬ isPre ts k = true -> x = .bad k 50):=hid fun h2 h3 => by
  rw [if_neg h2,if_neg h3] at hr
  cases hr; rfl
 have HPR:Hid (¬ kk = 2 -> isPre ts k = true -> thenO (run true ts n .args (k + 1) s) (fun o k2 => some (.ok (.fm (.mk 1 nm (tsO o) [])) k2)) = some x):=hid fun h2 h3 => by
  rw [if_neg h2,if_pos h3] at hr
  exact hr
 have HVC:=hid hvc
 have HIV:=hid hiv
 have HKK:=hid hkk
 have HNM:=hid hnm
 clear hvc hqv hkk hnm hiv tk tz hr hfm hnz
 by_cases hk1:kk = 1
 case neg =>
  have HX:Hid (x = .bad k 50):=hid (by
   by_cases h2:kk = 2
   ·exact HBAD.out h2
   ·exact HNP.out h2 (by rw [HIV.out,decide_eq_false hk1]; simp))
  have e1:(kk == 1) = false:=by simpa using hk1
  have e2:(kk != 1) = true:=by simpa using hk1
  clear hk1
  go_enter Tryz.func140,Tryz.ntmps140
  go_wp2_with (first | (go_at_call 44; ((with_reducible refine HG0.out.mono ?_); rintro _ w9 ⟨rfl,rfl⟩)) | (go_at_call 44; ((with_reducible refine HG1.out.mono ?_); rintro _ w9 ⟨rfl,rfl⟩)) | (go_at_call 142; ((with_reducible refine HRM.out.mono ?_); rintro _ w9 ⟨rfl,rfl⟩)))
  refine bodyPost_ret (results_c1t2 (p:=4) (u:=5) (v:=6) (ty:=28) (by kernel_rfl) _ _ w.heap.size 28 _ (0,0) _ _ _ rfl rfl rfl (HK.blk_new w (.cells #[.int .u8 0,.string ⟨#[]⟩,.slice none 0 0,.slice none 0 0] 28)) Tryz.underlying28 rfl (by kernel_rfl)) rfl ?_
  exact ⟨bl_al9 _,_,_,_,_,_,_,_,_,_,_,_,_,rfl,by rw [HX.out]; rfl,by rw [HX.out]; exact HS0.out,fun ob' k' h => by rw [HX.out] at h; cases h⟩
 subst hk1
 rcases q with _ | _
 case false =>
  have HX:=hid (HNP.out (by omega) (by rw [HIV.out]; simp))
  go_enter Tryz.func140,Tryz.ntmps140
  go_wp2_with (first | (go_at_call 44; ((with_reducible refine HG0.out.mono ?_); rintro _ w9 ⟨rfl,rfl⟩)) | (go_at_call 44; ((with_reducible refine HG1.out.mono ?_); rintro _ w9 ⟨rfl,rfl⟩)) | (go_at_call 142; ((with_reducible refine HRM.out.mono ?_); rintro _ w9 ⟨rfl,rfl⟩)) | (go_at_call 101; ((with_reducible refine (HVC.out _).mono ?_); rintro _ w9 ⟨rfl,rfl⟩)))
  refine bodyPost_ret (results_c1t2 (p:=4) (u:=5) (v:=6) (ty:=28) (by kernel_rfl) _ _ w.heap.size 28 _ (0,0) _ _ _ rfl rfl rfl (HK.blk_new w (.cells #[.int .u8 0,.string ⟨#[]⟩,.slice none 0 0,.slice none 0 0] 28)) Tryz.underlying28 rfl (by kernel_rfl)) rfl ?_
  exact ⟨bl_al9 _,_,_,_,_,_,_,_,_,_,_,_,_,rfl,by rw [HX.out]; rfl,by rw [HX.out]; exact HS0.out,fun ob' k' h => by rw [HX.out] at h; cases h⟩
 have hr:=HPR.out (by omega) (by rw [HIV.out]; rfl)
 have hk0:k < z:=HT.out.ok.en.ltk HS0.out.hk (by rw [<- HKK.out]; decide)
 obtain ⟨hs1,a1,b1,d1,e1,f1⟩:=SlT'.next HS0.out hk0
 have HS1:=hid hs1
 clear hs1
 obtain ⟨y,hy,hyx⟩:∃ y,run true ts n .args (k + 1) s = some y /\ ((∃ ob k2,y = .ok ob k2 /\ x = .ok (.fm (.mk 1 nm (tsO ob) [])) k2) ∨ (∃ k2 e,y = .bad k2 e /\ x = .bad k2 e)):=by
  rcases thenO_some hr with ⟨ob,k2,h1,h2⟩ | ⟨k2,e,h1,h2⟩
  ·exact ⟨_,h1,.inl ⟨ob,k2,rfl,by cases h2; rfl⟩⟩
  ·exact ⟨_,h1,.inr ⟨k2,e,rfl,h2⟩⟩
 have hc2:=HAA.out (k + 1) s y hy (w.alloc (.cells #[.int .u8 0,.string ⟨#[]⟩,.slice none 0 0,.slice none 0 0] 28)) (o + 3) (nn - 1) (c - 1) (HT.out.up (bl_al9 _)) HS1.out (by have:=HSK.out; omega)
 unfold RetRA at hc2
 have HC2:=hid hc2
 have HYX:=hid hyx
 clear hr hy hyx hc2 hk0
 go_enter Tryz.func140,Tryz.ntmps140
 go_upto_region 14 with (first | (go_at_call 44; ((with_reducible refine HG0.out.mono ?_); rintro _ w9 ⟨rfl,rfl⟩)) | (go_at_call 44; ((with_reducible refine HG1.out.mono ?_); rintro _ w9 ⟨rfl,rfl⟩)) | (go_at_call 142; ((with_reducible refine HRM.out.mono ?_); rintro _ w9 ⟨rfl,rfl⟩)) | (go_at_call 101; ((with_reducible refine (HVC.out _).mono ?_); rintro _ w9 ⟨rfl,rfl⟩)))
 go_wp2_with (fail)
 go_at_call 68
 with_reducible refine HC2.out.mono ?_
 rintro _ w2 ⟨hB2,ra,rb,rc,o2,n2,c2,e2,rfl,her2,hsl2,hts2⟩
 have HE2:=hid her2
 have HSL:=hid hsl2
 have HTS:=hid hts2
 have hBa:=(bl_al9 (W:=w) (.cells #[.int .u8 0,.string ⟨#[]⟩,.slice none 0 0,.slice none 0 0] 28)).trans (hB2.mono (bl_al9 (W:=w) (.cells #[.int .u8 0,.string ⟨#[]⟩,.slice none 0 0,.slice none 0 0] 28)).size)
 have HBW:=hid hBa
 have hz:=(hB2.block _ (HK.blk_lt HZ0.out)).trans HZ0.out
 have HZ:=hid hz
 clear her2 hsl2 hts2 hBa hB2 a1 b1 d1 e1 f1 t0 t1 tn
 have ht:=(HT.out.up HBW.out).cells HS0.out
 rw [<- HKK.out,<- HNM.out] at ht
 obtain ⟨t0,t1,_,_,tn⟩:=ht
 have u0:=HK.blk_cell hz 0
 have u1:=HK.blk_cell hz 1
 have u2:=HK.blk_cell hz 2
 have u3:=HK.blk_cell hz 3
 have uf:=fun i => HK.blk_frozen hz i
 clear hz
 go_wp2_with (fail)
 refine bodyPost_ret (results_c1t2 (p:=4) (u:=5) (v:=6) (ty:=28) (by kernel_rfl) _ _ w.heap.size 28 _ (0,0) _ _ _ rfl rfl rfl (pset4 HZ.out _ _ _ _) Tryz.underlying28 rfl (by kernel_rfl)) rfl ?_
 have hstate:e2 = erO x /\ plO x = plO y:=by
  rcases HYX.out with ⟨ob2,k2,hy,hx⟩ | ⟨k2,e,hy,hx⟩
  ·exact ⟨by rw [HE2.out,hy,hx] <;> rfl,by rw [hy,hx] <;> rfl⟩
  ·exact ⟨by rw [HE2.out,hy,hx] <;> rfl,by rw [hy,hx] <;> rfl⟩
 refine ⟨below4 HBW.out (Nat.le_refl _) _ _ _ _,_,_,_,_,_,_,_,_,_,_,_,_,rfl,hstate.1,by rw [hstate.2]; exact HSL.out,fun ob' k' h => ?_⟩
 rcases HYX.out with ⟨ob2,k2,hy,hx⟩ | ⟨k2,e,hy,hx⟩
 ·rw [hx] at h
  cases h
  have hts:=(HTS.out ob2 _ hy).turn (T:=RS w w.heap.size w2) (W':=w2) fun j hj => by
   have h1:=hj.1
   simp only [World.size_alloc] at h1
   exact ⟨⟨by omega,hj.2,by omega⟩,rfl⟩
  exact fin_box (b7:=w.heap.size) (show FmS (RS w w.heap.size w2) w2 (.mk 1 nm (tsO ob2) []) (.agg #[.int .u8 1,.string nm,.slice ra rb rc,.slice none 0 0]) from ⟨⟨ra,rb,rc⟩,⟨none,0,0⟩,rfl,hts,.nil _ _,by show 1 < 256; decide,HNZ.out⟩) _ _ _ _
 ·rw [hx] at h; cases h
end Go.Proofs.YtdobflpbkfkmgaaGreatDoor
