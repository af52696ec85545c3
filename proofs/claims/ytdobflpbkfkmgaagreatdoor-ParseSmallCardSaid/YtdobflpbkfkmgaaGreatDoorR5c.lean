import Derived.Test.YtdobflpbkfkmgaaGreatDoorR5b
namespace Go.Proofs.YtdobflpbkfkmgaaGreatDoor
open Go.RowKit Go.HK Go.FR Lib
set_option linter.unusedVariables false
set_option linter.unusedSimpArgs false
set_option linter.unusedSectionVars false
theorem SlT'.next {z k o n c:Nat} (h:SlT' z k o n c) (hk:k < z):SlT' z (k + 1) (o + 3) (n - 1) (c - 1) /\ (1:Int) <= (n:Int) /\ (n:Int) <= (c:Int) /\ (1:Int) <= (c:Int) /\ (1:Int) < (n:Int) /\ (1:Int) < (c:Int):=by
 have h1:=h.ho
 have h2:=h.hn
 have h3:=h.hc
 exact ⟨⟨by omega,by omega,by omega,hk⟩,by omega,by omega,by omega,by omega,by omega⟩
theorem nil_form (S:Nat -> Prop) (W:World) (op:Nat) (nm:ByteArray) (ho:op < 256) (hn:nm.size <= maxLen):FmS S W (.mk op nm [] []) (.agg #[.int .u8 (op:Int),.string nm,.slice none 0 0,.slice none 0 0]):=⟨⟨none,0,0⟩,⟨none,0,0⟩,rfl,.nil _ _,.nil _ _,ho,hn⟩
set_option maxRecDepth 100000 in
set_option maxHeartbeats 8000000 in
theorem meta_call' {ts:List Tok} {z g k:Nat} (w:World) (o nn c:Nat) (hT:TkR w g ts z) (hS:SlT' z k o nn c) (hF:isFM true ts k = true):Calls Tryz.prog 143 #[.slice (some ⟨g,o,none⟩) nn c] w (RetRF w g z (metaP true ts k)):=by
 have HT:=hid hT
 have hE:=hT.ok.en
 obtain ⟨x,hx⟩:∃ x,x = metaP true ts k:=⟨_,rfl⟩
 rw [<- hx]
 unfold metaP at hx
 rw [if_pos hF] at hx
 have hk0:k < z:=hE.ltk hS.hk (isFM_k hF)
 have HE:=hid hE
 obtain ⟨t0,t1,tk,tz,tn⟩:=(HT.out.up (bl_al9 (.cells #[.int .u8 0,.string ⟨#[]⟩,.slice none 0 0,.slice none 0 0] 28))).cells hS
 obtain ⟨nm,hnm⟩:∃ q,q = (tkA ts k).t:=⟨_,rfl⟩
 have hnz:nm.size <= maxLen:=by rw [hnm]; have:maxLen = 9223372036854775807:=rfl; omega
 have HNZ:=hid hnz
 rw [<- hnm] at t1 hx
 obtain ⟨hs1,a1,b1,d1,e1,f1⟩:=SlT'.next hS hk0
 have HS1:=hid hs1
 clear hs1
 have hg1:=rsg_call (HT.out.up (bl_al9 (.cells #[.int .u8 0,.string ⟨#[]⟩,.slice none 0 0,.slice none 0 0] 28))) HS1.out ⟨#[91]⟩ (by unfold Sg; decide)
 rw [show bys (⟨#[91]⟩:ByteArray) = [91] from rfl] at hg1
 have HG1:=hid hg1
 clear hg1
 have HX0:=hid hx
 have HS0:=hid hS
 clear hx hF hnm hnz hT hS hE hk0 tk tz
 go_enter Tryz.func143,Tryz.ntmps143
 go_upto_region 3 with (fail)
 clear t0 t1 tn
 obtain ⟨o1,ho1⟩:∃ q,q = o + 3:=⟨_,rfl⟩
 obtain ⟨n1,hn1⟩:∃ q,q = nn - 1:=⟨_,rfl⟩
 obtain ⟨c1,hc1⟩:∃ q,q = c - 1:=⟨_,rfl⟩
 rw [<- ho1,<- hn1,<- hc1] at HS1 HG1 ⊢
 clear ho1 hn1 hc1 a1 b1 d1 e1 f1
 by_cases h1:txt ts (k + 1) = [91]
 case neg =>
  have hx:=HX0.out
  rw [if_neg h1] at hx
  have HX:=hid hx
  rw [decide_eq_false h1] at HG1
  clear hx h1
  go_wp2_with ((go_at_call 44; ((with_reducible refine HG1.out.mono ?_); rintro _ w9 ⟨rfl,rfl⟩)))
  refine bodyPost_ret (results_c1t2 (p:=2) (u:=3) (v:=4) (ty:=28) (by kernel_rfl) _ _ w.heap.size 28 _ (0,0) _ _ _ rfl rfl rfl (HK.blk_new w (.cells #[.int .u8 15,.string nm,.slice none 0 0,.slice none 0 0] 28)) Tryz.underlying28 rfl (by kernel_rfl)) rfl ?_
  exact ⟨bl_al9 _,_,_,_,_,_,_,_,_,_,_,_,_,rfl,by rw [HX.out]; rfl,by rw [HX.out]; exact HS1.out,fun ob' k' h => by rw [HX.out] at h; cases h; exact nil_form _ _ 15 nm (by omega) HNZ.out⟩
 have hx:=HX0.out
 rw [if_pos h1] at hx
 rw [decide_eq_true h1] at HG1
 have hk1:k + 1 < z:=HE.out.lt HS1.out.hk (by rw [h1]; decide)
 obtain ⟨hs2,a2,b2,d2,e2,f2⟩:=SlT'.next HS1.out hk1
 have HS2:=hid hs2
 clear hs2
 have HX1:=hid hx
 have hmt:=rmt_call (HT.out.up (bl_al9 (.cells #[.int .u8 0,.string ⟨#[]⟩,.slice none 0 0,.slice none 0 0] 28))) HS2.out
 have HMT:=hid hmt
 clear hx h1 HX0 hk1 hmt
 go_upto_region 6 with ((go_at_call 44; ((with_reducible refine HG1.out.mono ?_); rintro _ w9 ⟨rfl,rfl⟩)))
 obtain ⟨o2,ho2⟩:∃ q,q = o1 + 3:=⟨_,rfl⟩
 obtain ⟨n2,hn2⟩:∃ q,q = n1 - 1:=⟨_,rfl⟩
 obtain ⟨c2,hc2⟩:∃ q,q = c1 - 1:=⟨_,rfl⟩
 rw [<- ho2,<- hn2,<- hc2] at HS2 HMT ⊢
 clear ho2 hn2 hc2 a2 b2 d2 e2 f2
 by_cases h2:isTM true ts (k + 2) = true
 case neg =>
  have hx:=HX1.out
  rw [if_neg h2] at hx
  have HX:=hid hx
  have h2':isTM true ts (k + 1 + 1) = false:=by simpa using h2
  rw [h2'] at HMT
  clear hx h2 h2'
  go_wp2_with ((go_at_call 65; ((with_reducible refine HMT.out.mono ?_); rintro _ w9 ⟨rfl,rfl⟩)))
  refine bodyPost_ret (results_c1t2 (p:=2) (u:=3) (v:=4) (ty:=28) (by kernel_rfl) _ _ w.heap.size 28 _ (0,0) _ _ _ rfl rfl rfl (HK.blk_new w (.cells #[.int .u8 0,.string ⟨#[]⟩,.slice none 0 0,.slice none 0 0] 28)) Tryz.underlying28 rfl (by kernel_rfl)) rfl ?_
  exact ⟨bl_al9 _,_,_,_,_,_,_,_,_,_,_,_,_,rfl,by rw [HX.out]; rfl,by rw [HX.out]; exact HS2.out,fun ob' k' h => by rw [HX.out] at h; cases h⟩
 have hx:=HX1.out
 rw [if_pos h2] at hx
 rw [show isTM true ts (k + 1 + 1) = true from h2] at HMT
 have hk2:k + 1 + 1 < z:=HE.out.ltk HS2.out.hk (isTM_k h2)
 obtain ⟨t0,t1,tk,tz,tn⟩:=(HT.out.up (bl_al9 (.cells #[.int .u8 0,.string ⟨#[]⟩,.slice none 0 0,.slice none 0 0] 28))).cells HS2.out
 obtain ⟨tm,htm⟩:∃ q,q = (tkA ts (k + 1 + 1)).t:=⟨_,rfl⟩
 have htz:tm.size <= maxLen:=by rw [htm]; have:maxLen = 9223372036854775807:=rfl; omega
 have HTZ:=hid htz
 rw [show (tkA ts (k + 2)).t = tm from htm.symm] at hx
 rw [<- htm] at t1
 obtain ⟨hs3,a3,b3,d3,e3,f3⟩:=SlT'.next HS2.out hk2
 have HS3:=hid hs3
 clear hs3
 have hg3:=rsg_call (HT.out.up (bl_al9 (.cells #[.int .u8 0,.string ⟨#[]⟩,.slice none 0 0,.slice none 0 0] 28))) HS3.out ⟨#[47]⟩ (by unfold Sg; decide)
 rw [show bys (⟨#[47]⟩:ByteArray) = [47] from rfl] at hg3
 have HG3:=hid hg3
 clear hg3
 have HX2:=hid hx
 clear hx h2 HX1 hk2 htm htz tk tz
 go_upto_region 10 with ((go_at_call 65; ((with_reducible refine HMT.out.mono ?_); rintro _ w9 ⟨rfl,rfl⟩)))
 clear t0 t1 tn
 obtain ⟨o3,ho3⟩:∃ q,q = o2 + 3:=⟨_,rfl⟩
 obtain ⟨n3,hn3⟩:∃ q,q = n2 - 1:=⟨_,rfl⟩
 obtain ⟨c3,hc3⟩:∃ q,q = c2 - 1:=⟨_,rfl⟩
 rw [<- ho3,<- hn3,<- hc3] at HS3 HG3 ⊢
 clear ho3 hn3 hc3 a3 b3 d3 e3 f3
 by_cases h3:txt ts (k + 3) = [47]
 case neg =>
  have hx:=HX2.out
  rw [if_neg h3] at hx
  have HX:=hid hx
  rw [show decide (txt ts (k + 1 + 1 + 1) = [47]) = false from decide_eq_false h3] at HG3
  clear hx h3
  go_wp2_with ((go_at_call 44; ((with_reducible refine HG3.out.mono ?_); rintro _ w9 ⟨rfl,rfl⟩)))
  refine bodyPost_ret (results_c1t2 (p:=2) (u:=3) (v:=4) (ty:=28) (by kernel_rfl) _ _ w.heap.size 28 _ (0,0) _ _ _ rfl rfl rfl (HK.blk_new w (.cells #[.int .u8 0,.string ⟨#[]⟩,.slice none 0 0,.slice none 0 0] 28)) Tryz.underlying28 rfl (by kernel_rfl)) rfl ?_
  exact ⟨bl_al9 _,_,_,_,_,_,_,_,_,_,_,_,_,rfl,by rw [HX.out]; rfl,by rw [HX.out]; exact HS3.out,fun ob' k' h => by rw [HX.out] at h; cases h⟩
 have hx:=HX2.out
 rw [if_pos h3] at hx
 rw [show decide (txt ts (k + 1 + 1 + 1) = [47]) = true from decide_eq_true h3] at HG3
 have hk3:k + 1 + 1 + 1 < z:=HE.out.lt HS3.out.hk (by rw [show txt ts (k + 1 + 1 + 1) = [47] from h3]; decide)
 obtain ⟨hs4,a4,b4,d4,e4,f4⟩:=SlT'.next HS3.out hk3
 have HS4:=hid hs4
 clear hs4
 have HX3:=hid hx
 clear hx h3 HX2 hk3
 go_upto_region 13 with ((go_at_call 44; ((with_reducible refine HG3.out.mono ?_); rintro _ w9 ⟨rfl,rfl⟩)))
 obtain ⟨o4,ho4⟩:∃ q,q = o3 + 3:=⟨_,rfl⟩
 obtain ⟨n4,hn4⟩:∃ q,q = n3 - 1:=⟨_,rfl⟩
 obtain ⟨c4,hc4⟩:∃ q,q = c3 - 1:=⟨_,rfl⟩
 rw [<- ho4,<- hn4,<- hc4] at HS4  ⊢
 clear ho4 hn4 hc4 a4 b4 d4 e4 f4
 obtain ⟨t0,t1,tk,tz,tn⟩:=(HT.out.up (bl_al9 (.cells #[.int .u8 0,.string ⟨#[]⟩,.slice none 0 0,.slice none 0 0] 28))).cells HS4.out
 obtain ⟨xn,hxn⟩:∃ q,q = (tkA ts (k + 1 + 1 + 1 + 1)).t:=⟨_,rfl⟩
 have hxz:xn.size <= maxLen:=by rw [hxn]; have:maxLen = 9223372036854775807:=rfl; omega
 have HXZ:=hid hxz
 have hvc:=variable_call (w.alloc (.cells #[.int .u8 0,.string ⟨#[]⟩,.slice none 0 0,.slice none 0 0] 28)) xn hxz
 obtain ⟨q,hq⟩:∃ q,q = checkB varB digitB xn:=⟨_,rfl⟩
 obtain ⟨kk,hkk⟩:∃ q,q = (tkA ts (k + 1 + 1 + 1 + 1)).k:=⟨_,rfl⟩
 have hiv:isVar ts (k + 4) = (decide (kk = 1) && q):=by unfold isVar; rw [hkk,hq,hxn]
 rw [<- hq] at hvc
 rw [<- hxn] at t1
 rw [<- hkk] at t0
 have HVC:=hid hvc
 have HXN:Hid (xn = (tkA ts (k + 4)).t):=hid hxn
 have HIV:=hid hiv
 have HKK:Hid (kk = (tkA ts (k + 1 + 1 + 1 + 1)).k):=hid hkk
 clear hvc hq hkk hxn hiv tk tz hxz
 have HX4:Hid (¬ isVar ts (k + 4) = true -> x = .bad (k + 4) 50):=hid fun h => by have hx:=HX3.out; rw [if_neg h] at hx; exact hx
 by_cases hk1:kk = 1
 case neg =>
  have HX:=hid (HX4.out (by rw [HIV.out,decide_eq_false hk1]; simp))
  have e1:(kk == 1) = false:=by simpa using hk1
  have e2:(kk != 1) = true:=by simpa using hk1
  clear hk1
  go_wp2_with (fail)
  refine bodyPost_ret (results_c1t2 (p:=2) (u:=3) (v:=4) (ty:=28) (by kernel_rfl) _ _ w.heap.size 28 _ (0,0) _ _ _ rfl rfl rfl (HK.blk_new w (.cells #[.int .u8 0,.string ⟨#[]⟩,.slice none 0 0,.slice none 0 0] 28)) Tryz.underlying28 rfl (by kernel_rfl)) rfl ?_
  exact ⟨bl_al9 _,_,_,_,_,_,_,_,_,_,_,_,_,rfl,by rw [HX.out]; rfl,by rw [HX.out]; exact HS4.out,fun ob' k' h => by rw [HX.out] at h; cases h⟩
 subst hk1
 rcases q with _ | _
 case false =>
  have HX:=hid (HX4.out (by rw [HIV.out]; simp))
  go_wp2_with ((go_at_call 66; ((with_reducible refine HVC.out.mono ?_); rintro _ w9 ⟨rfl,rfl⟩)))
  refine bodyPost_ret (results_c1t2 (p:=2) (u:=3) (v:=4) (ty:=28) (by kernel_rfl) _ _ w.heap.size 28 _ (0,0) _ _ _ rfl rfl rfl (HK.blk_new w (.cells #[.int .u8 0,.string ⟨#[]⟩,.slice none 0 0,.slice none 0 0] 28)) Tryz.underlying28 rfl (by kernel_rfl)) rfl ?_
  exact ⟨bl_al9 _,_,_,_,_,_,_,_,_,_,_,_,_,rfl,by rw [HX.out]; rfl,by rw [HX.out]; exact HS4.out,fun ob' k' h => by rw [HX.out] at h; cases h⟩
 have hx:=HX3.out
 rw [if_pos (by rw [HIV.out]; rfl),<- HXN.out] at hx
 have hk4:k + 1 + 1 + 1 + 1 < z:=HE.out.ltk HS4.out.hk (by rw [<- HKK.out]; decide)
 obtain ⟨hs5,a5,b5,d5,e5,f5⟩:=SlT'.next HS4.out hk4
 have HS5:=hid hs5
 clear hs5
 have hg5:=rsg_call (HT.out.up (bl_al9 (.cells #[.int .u8 0,.string ⟨#[]⟩,.slice none 0 0,.slice none 0 0] 28))) HS5.out ⟨#[93]⟩ (by unfold Sg; decide)
 rw [show bys (⟨#[93]⟩:ByteArray) = [93] from rfl] at hg5
 have HG5:=hid hg5
 clear hg5
 have HX5:=hid hx
 clear hx HX3 HX4 hk4
 go_upto_region 17 with ((go_at_call 66; ((with_reducible refine HVC.out.mono ?_); rintro _ w9 ⟨rfl,rfl⟩)))
 clear t0 t1 tn
 obtain ⟨o5,ho5⟩:∃ q,q = o4 + 3:=⟨_,rfl⟩
 obtain ⟨n5,hn5⟩:∃ q,q = n4 - 1:=⟨_,rfl⟩
 obtain ⟨c5,hc5⟩:∃ q,q = c4 - 1:=⟨_,rfl⟩
 rw [<- ho5,<- hn5,<- hc5] at HS5 HG5 ⊢
 clear ho5 hn5 hc5 a5 b5 d5 e5 f5
 by_cases h5:txt ts (k + 5) = [93]
 case neg =>
  have hx:=HX5.out
  rw [if_neg h5] at hx
  have HX:=hid hx
  rw [show decide (txt ts (k + 1 + 1 + 1 + 1 + 1) = [93]) = false from decide_eq_false h5] at HG5
  clear hx h5
  go_wp2_with ((go_at_call 44; ((with_reducible refine HG5.out.mono ?_); rintro _ w9 ⟨rfl,rfl⟩)))
  refine bodyPost_ret (results_c1t2 (p:=2) (u:=3) (v:=4) (ty:=28) (by kernel_rfl) _ _ w.heap.size 28 _ (0,0) _ _ _ rfl rfl rfl (HK.blk_new w (.cells #[.int .u8 0,.string ⟨#[]⟩,.slice none 0 0,.slice none 0 0] 28)) Tryz.underlying28 rfl (by kernel_rfl)) rfl ?_
  exact ⟨bl_al9 _,_,_,_,_,_,_,_,_,_,_,_,_,rfl,by rw [HX.out]; rfl,by rw [HX.out]; exact HS5.out,fun ob' k' h => by rw [HX.out] at h; cases h⟩
 have hx:=HX5.out
 rw [if_pos h5] at hx
 rw [show decide (txt ts (k + 1 + 1 + 1 + 1 + 1) = [93]) = true from decide_eq_true h5] at HG5
 have hk5:k + 1 + 1 + 1 + 1 + 1 < z:=HE.out.lt HS5.out.hk (by rw [show txt ts (k + 1 + 1 + 1 + 1 + 1) = [93] from h5]; decide)
 obtain ⟨hs6,a6,b6,d6,e6,f6⟩:=SlT'.next HS5.out hk5
 have HS6:=hid hs6
 clear hs6
 have HX:=hid hx
 clear hx h5 HX5 hk5
 go_upto_region 19 with ((go_at_call 44; ((with_reducible refine HG5.out.mono ?_); rintro _ w9 ⟨rfl,rfl⟩)))
 go_region
 all_goals (
  go_wp2_with (fail)
  have hrow:=HK.blk_drew (HK.blk_new (w.alloc (.cells #[.int .u8 16,.string nm,.slice (some ⟨w.heap.size + 1,0,none⟩) 2 2,.slice none 0 0] 28)) (.cells #[.bool true,.string xn,.slice none 0 0,.bool true,.string tm,.slice none 0 0] 36))
  have hbx:=HK.blk_drew (HK.blk_alloc (HK.blk_new w (.cells #[.int .u8 16,.string nm,.slice (some ⟨w.heap.size + 1,0,none⟩) 2 2,.slice none 0 0] 28)) (.cells #[.bool true,.string xn,.slice none 0 0,.bool true,.string tm,.slice none 0 0] 36))
  simp only [World.size_alloc] at hrow
  refine bodyPost_ret (results_c1t2 (p:=2) (u:=3) (v:=4) (ty:=28) (by kernel_rfl) _ _ w.heap.size 28 _ (0,0) _ _ _ rfl rfl rfl hbx Tryz.underlying28 rfl (by kernel_rfl)) rfl ?_
  refine ⟨bl_dr9 ((bl_al9 _).alloc (by simp) _),_,_,_,_,_,_,_,_,_,_,_,_,rfl,by rw [HX.out]; rfl,by rw [HX.out]; exact HS6.out,fun ob' k' h => ?_⟩
  rw [HX.out] at h
  cases h
  refine ⟨⟨some ⟨w.heap.size + 1,0,none⟩,2,2⟩,⟨none,0,0⟩,rfl,ts_row [(Va xn,⟨none,0,0⟩),(Va tm,⟨none,0,0⟩)] (fun i v hv => ?_) ⟨by omega,HK.blk_lt hrow⟩ (fun p hp => ?_) rfl,.nil _ _,by show (16:Nat) < 256; omega,HNZ.out⟩
  ·rw [HK.blk_cell hrow]
   rcases (by omega:i = 0 ∨ i = 1 ∨ i = 2 ∨ i = 3 ∨ i = 4 ∨ i = 5 ∨ 6 <= i) with rfl | rfl | rfl | rfl | rfl | rfl | h6
   iterate 6 exact hv
   rw [List.getElem?_eq_none (by simpa [celT,tmV] using h6)] at hv; cases hv
  ·simp only [List.mem_cons,List.mem_nil_iff,or_false] at hp
   rcases hp with rfl | rfl
   ·exact ⟨.nil _ _,HXZ.out⟩
   ·exact ⟨.nil _ _,HTZ.out⟩)
end Go.Proofs.YtdobflpbkfkmgaaGreatDoor
