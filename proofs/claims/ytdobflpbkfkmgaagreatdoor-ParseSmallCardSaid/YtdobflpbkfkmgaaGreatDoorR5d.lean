import Derived.Test.YtdobflpbkfkmgaaGreatDoorR5c
namespace Go.Proofs.YtdobflpbkfkmgaaGreatDoor
open Go.RowKit Go.HK Go.FR Lib
set_option linter.unusedVariables false
set_option linter.unusedSimpArgs false
set_option linter.unusedSectionVars false
theorem unO_ops {x:List UInt8} {op:Nat} (h:unO x = some op):op = 3 ∨ op = 8 ∨ op = 9 ∨ op = 10 ∨ op = 11 ∨ op = 12 ∨ op = 13:=by
 unfold unO at h
 repeat' (split at h; · cases h; omega)
 cases h
set_option maxRecDepth 100000 in
set_option maxHeartbeats 8000000 in
theorem runary_of {ts:List Tok} {z g n:Nat} (hU:LC ts z g n 135 .un) (hBA:LC ts z g n 140 .basic):LC ts z g (n + 1) 135 .un:=by
 intro k s x hr w o nn c hT hS hsk
 unfold run at hr
 have hz6:=hT.ok.le
 have s6:(s:Int) <= 100000:=by have:=hS.hk; omega
 have s0:(0:Int) <= (s:Int):=by omega
 have HT:=hid hT
 have HS0:=hid hS
 have HSK:=hid hsk
 have HU:=hid hU
 by_cases hs:120 < s
 case pos =>
  rw [if_pos hs] at hr
  have hx:x = .bad k 51:=by cases hr; rfl
  have HX:=hid hx
  have hsi:(120:Int) < (s:Int):=by omega
  clear hr hx hs hT hS hsk hU hBA hz6
  go_enter Tryz.func135,Tryz.ntmps135
  go_wp2_with (fail)
  refine bodyPost_ret (results_c1t2 (p:=4) (u:=5) (v:=6) (ty:=28) (by kernel_rfl) _ _ w.heap.size 28 _ (0,0) _ _ _ rfl rfl rfl (HK.blk_new w (.cells #[.int .u8 0,.string ⟨#[]⟩,.slice none 0 0,.slice none 0 0] 28)) Tryz.underlying28 rfl (by kernel_rfl)) rfl ?_
  exact ⟨bl_al9 _,_,_,_,_,_,_,_,_,_,_,_,_,rfl,by rw [HX.out]; rfl,by rw [HX.out]; exact HS0.out,fun ob' k' h => by rw [HX.out] at h; cases h⟩
 rw [if_neg hs] at hr
 have hsi:¬ (120:Int) < (s:Int):=by omega
 have hop:=rop_call (HT.out.up (bl_al9 (.cells #[.int .u8 0,.string ⟨#[]⟩,.slice none 0 0,.slice none 0 0] 28))) hS
 cases hu:unO (txt ts k) with
 | none =>
  rw [hu] at hr
  simp only at hr
  rw [show opN (txt ts k) = 0 by unfold opN; rw [hu]; rfl] at hop
  simp only [show ((0:Nat):Int) = 0 from rfl] at hop
  have hb:=hBA k s x hr (w.alloc (.cells #[.int .u8 0,.string ⟨#[]⟩,.slice none 0 0,.slice none 0 0] 28)) o nn c (hT.up (bl_al9 _)) hS hsk
  unfold RetRF at hb
  have HOP:=hid hop
  have HBB:=hid hb
  have hz0:=HK.blk_new w (.cells #[.int .u8 0,.string ⟨#[]⟩,.slice none 0 0,.slice none 0 0] 28)
  have HZ0:=hid hz0
  clear hop hb hz0 hu hr hT hS hsk hU hBA hz6 hs
  go_enter Tryz.func135,Tryz.ntmps135
  go_wp2_with ((go_at_call 139; ((with_reducible refine HOP.out.mono ?_); rintro _ w9 ⟨rfl,rfl⟩)))
  go_at_call 140
  with_reducible refine HBB.out.mono ?_
  rintro _ w2 ⟨hB2,po,pn,pa,pb,pc,pd,pe,pf,o1,m1,d1,e1,rfl,her,hsl,hfm⟩
  have HBW:=hid ((bl_al9 (W:=w) (.cells #[.int .u8 0,.string ⟨#[]⟩,.slice none 0 0,.slice none 0 0] 28)).trans (hB2.mono (bl_al9 (W:=w) (.cells #[.int .u8 0,.string ⟨#[]⟩,.slice none 0 0,.slice none 0 0] 28)).size))
  have hz:=(hB2.block _ (HK.blk_lt HZ0.out)).trans HZ0.out
  have HE:=hid her
  have HSL:=hid hsl
  have HF:=hid hfm
  have HZ:=hid hz
  have u0:=HK.blk_cell hz 0
  have u1:=HK.blk_cell hz 1
  have u2:=HK.blk_cell hz 2
  have u3:=HK.blk_cell hz 3
  have uf:=fun i => HK.blk_frozen hz i
  clear her hsl hfm hz hB2
  go_wp2_with (fail)
  refine bodyPost_ret (results_c1t2 (p:=4) (u:=5) (v:=6) (ty:=28) (by kernel_rfl) _ _ w.heap.size 28 _ (0,0) _ _ _ rfl rfl rfl (pset4 HZ.out _ _ _ _) Tryz.underlying28 rfl (by kernel_rfl)) rfl ?_
  exact ⟨below4 HBW.out (Nat.le_refl _) _ _ _ _,_,_,_,_,_,_,_,_,_,_,_,_,rfl,HE.out,HSL.out,fun ob' k' h => fin_box (b7:=w.heap.size + 1) ((HF.out ob' k' h).turn (T:=RS w (w.heap.size + 1) w2) fun j hj => by
   have h1:=hj.1
   simp only [World.size_alloc] at h1
   exact ⟨⟨by omega,hj.2,by omega⟩,rfl⟩) _ _ _ _⟩
 | some op =>
  rw [hu] at hr
  simp only at hr
  have hops:=unO_ops hu
  rw [show opN (txt ts k) = op by unfold opN; rw [hu]; rfl] at hop
  have hk0:k < z:=HT.out.ok.en.lt hS.hk (unO_ne hu)
  have hopi:((op:Int) == 0) = false:=by simp; omega
  obtain ⟨hs1,a1,b1,d1,e1,f1⟩:=SlT'.next hS hk0
  have HS1:=hid hs1
  clear hs1
  by_cases hq:op = 8 ∨ op = 9
  case neg =>
   rw [if_neg hq] at hr
   have q8:((op:Int) == 8) = false:=by simp; omega
   have q9:((op:Int) == 9) = false:=by simp; omega
   have HOPS:=hid hops
   have HOP:=hid hop
   clear hu hq hop hops hk0 hT hS hsk hU hBA hz6 hs
   have hr:(thenO (run true ts n .un (k + 1) (s + 1)) fun o k2 => some (.ok (.fm (.mk op ⟨#[]⟩ [] [fmO o])) k2)) = some x:=hr
   go_enter Tryz.func135,Tryz.ntmps135
   go_upto_region 8 with ((go_at_call 139; ((with_reducible refine HOP.out.mono ?_); rintro _ w9 ⟨rfl,rfl⟩)))
   obtain ⟨o1,ho1⟩:∃ q,q = o + 3:=⟨_,rfl⟩
   obtain ⟨n1,hn1⟩:∃ q,q = nn - 1:=⟨_,rfl⟩
   obtain ⟨c1,hc1⟩:∃ q,q = c - 1:=⟨_,rfl⟩
   rw [<- ho1,<- hn1,<- hc1] at HS1  ⊢
   clear ho1 hn1 hc1 a1 b1 d1 e1 f1
   obtain ⟨y,hy,hyx⟩:∃ y,run true ts n .un (k + 1) (s + 1) = some y /\ ((∃ ob k2,y = .ok ob k2 /\ x = .ok (.fm (.mk op ⟨#[]⟩ [] [fmO ob])) k2) ∨ (∃ k2 e,y = .bad k2 e /\ x = .bad k2 e)):=by
    rcases thenO_some hr with ⟨ob,k2,h1,h2⟩ | ⟨k2,e,h1,h2⟩
    ·exact ⟨_,h1,.inl ⟨ob,k2,rfl,by cases h2; rfl⟩⟩
    ·exact ⟨_,h1,.inr ⟨k2,e,rfl,h2⟩⟩
   have hwa:Below w.heap.size w ((w.alloc (.cells #[.int .u8 0,.string ⟨#[]⟩,.slice none 0 0,.slice none 0 0] 28)).alloc (.cells #[.int .u8 (op:Int),.string ⟨#[]⟩,.slice none 0 0,.slice none 0 0] 28)):=(bl_al9 _).alloc (by simp) _
   have hc2:=HU.out (k + 1) (s + 1) y hy ((w.alloc (.cells #[.int .u8 0,.string ⟨#[]⟩,.slice none 0 0,.slice none 0 0] 28)).alloc (.cells #[.int .u8 (op:Int),.string ⟨#[]⟩,.slice none 0 0,.slice none 0 0] 28)) o1 n1 c1 (HT.out.up hwa) HS1.out (by have:=HSK.out; omega)
   simp only [show (((s + 1:Nat)):Int) = (s:Int) + 1 from rfl] at hc2
   unfold RetRF at hc2
   have HC2:=hid hc2
   have HYX:=hid hyx
   have HWA:=hid hwa
   have hb8:=HK.blk_new (w.alloc (.cells #[.int .u8 0,.string ⟨#[]⟩,.slice none 0 0,.slice none 0 0] 28)) (.cells #[.int .u8 (op:Int),.string ⟨#[]⟩,.slice none 0 0,.slice none 0 0] 28)
   have hb4:=HK.blk_alloc (HK.blk_new w (.cells #[.int .u8 0,.string ⟨#[]⟩,.slice none 0 0,.slice none 0 0] 28)) (.cells #[.int .u8 (op:Int),.string ⟨#[]⟩,.slice none 0 0,.slice none 0 0] 28)
   simp only [World.size_alloc] at hb8
   have HB8:=hid hb8
   have HB4:=hid hb4
   clear hr hy hyx hwa hc2 hb8 hb4
   go_upto_region 14 with (first | fail | (go_at_call 135; ((with_reducible refine HC2.out.mono ?_); rintro _ w3 ⟨hB3,ro,rn,ra,rb,rc,rd,re,rf,o3,m3,d3,e3,rfl,her3,hsl3,hfm3⟩); have HE3:=hid her3; clear her3))
   have HB3:=hid hB3
   have HS3:=hid hsl3
   have HF3:=hid hfm3
   have hk8:=HK.blk_alloc ((hB3.block _ (HK.blk_lt HB8.out)).trans HB8.out) (.cells #[.int .u8 ro,.string rn,.slice ra rb rc,.slice rd re rf] 28)
   have hz4:=HK.blk_alloc ((hB3.block _ (HK.blk_lt HB4.out)).trans HB4.out) (.cells #[.int .u8 ro,.string rn,.slice ra rb rc,.slice rd re rf] 28)
   have hk9:=HK.blk_new w3 (.cells #[.int .u8 ro,.string rn,.slice ra rb rc,.slice rd re rf] 28)
   have HBW4:=hid ((HWA.out.trans (hB3.mono HWA.out.size)).alloc (HWA.out.trans (hB3.mono HWA.out.size)).size (.cells #[.int .u8 ro,.string rn,.slice ra rb rc,.slice rd re rf] 28))
   have hs3:=hB3.size
   simp only [World.size_alloc] at hs3
   clear hB3 hsl3 hfm3
   obtain ⟨b9,hb9⟩:∃ b,b = w3.heap.size:=⟨_,rfl⟩
   rw [<- hb9] at hk9 ⊢
   obtain ⟨w4,hw4⟩:∃ x,x = w3.alloc (.cells #[.int .u8 ro,.string rn,.slice ra rb rc,.slice rd re rf] 28):=⟨_,rfl⟩
   rw [<- hw4] at hk8 hz4 hk9 HBW4 ⊢
   have HW4:=hid hw4
   have HB9:=hid hb9
   have HS33:=hid hs3
   have HK8:=hid hk8
   have HZ4:=hid hz4
   clear hw4 hb9 hs3
   have y0:=HK.blk_cell hk8 0
   have y1:=HK.blk_cell hk8 1
   have y2:=HK.blk_cell hk8 2
   have y3:=HK.blk_cell hk8 3
   have yf:=fun i => HK.blk_frozen hk8 i
   have v0:=HK.blk_cell hk9 0
   have v1:=HK.blk_cell hk9 1
   have v2:=HK.blk_cell hk9 2
   have v3:=HK.blk_cell hk9 3
   have hne8:¬ w4.heap.size = w.heap.size + 1:=by rw [HW4.out]; simp only [World.size_alloc]; have:=HS33.out; omega
   have hk84:=HK.blk_alloc hk8 (.cells #[.int .u8 ro,.string rn,.slice ra rb rc,.slice rd re rf] 28)
   have x0:=HK.blk_cell hk84 0
   have x1:=HK.blk_cell hk84 1
   have x2:=HK.blk_cell hk84 2
   have x3:=HK.blk_cell hk84 3
   have xf:=fun i => HK.blk_frozen hk84 i
   clear hk8 hz4 hk9 hk84
   go_upto_region 15 with (fail)
   clear y0 y1 y2 y3 yf v0 v1 v2 v3 x0 x1 x2 x3 xf
   have hrow:=HK.blk_new w4 (.cells #[.int .u8 ro,.string rn,.slice ra rb rc,.slice rd re rf] 28)
   have s4:w4.heap.size = w3.heap.size + 1:=by rw [HW4.out]; simp
   have s33:=HS33.out
   have hk85:=HK.blk_set (HK.blk_alloc HK8.out (.cells #[.int .u8 ro,.string rn,.slice ra rb rc,.slice rd re rf] 28)) 3 (.slice (some ⟨w4.heap.size,0,none⟩) 1 1)
   have hz5:=HK.blk_set_other (HK.blk_alloc HZ4.out (.cells #[.int .u8 ro,.string rn,.slice ra rb rc,.slice rd re rf] 28)) (p:=⟨w.heap.size + 1,3,none⟩) (by show w.heap.size ≠ w.heap.size + 1; omega) (.slice (some ⟨w4.heap.size,0,none⟩) 1 1)
   have hrow5:=HK.blk_set_other hrow (p:=⟨w.heap.size + 1,3,none⟩) (by show w4.heap.size ≠ w.heap.size + 1; omega) (.slice (some ⟨w4.heap.size,0,none⟩) 1 1)
   have HBW5:=hid ((HBW4.out.alloc HBW4.out.size (.cells #[.int .u8 ro,.string rn,.slice ra rb rc,.slice rd re rf] 28)).setCell (p:=⟨w.heap.size + 1,3,none⟩) (by show w.heap.size <= w.heap.size + 1; omega) (.slice (some ⟨w4.heap.size,0,none⟩) 1 1))
   have HOLD:Hid (∀ j,w.heap.size + 1 < j -> j < w3.heap.size -> ((w4.alloc (.cells #[.int .u8 ro,.string rn,.slice ra rb rc,.slice rd re rf] 28)).setCell ⟨w.heap.size + 1,3,none⟩ (.slice (some ⟨w4.heap.size,0,none⟩) 1 1)).heap[j]? = w3.heap[j]?):=hid fun j h1 h2 => by
    rw [Below.heap_setCell _ _ _ _ (by show j ≠ w.heap.size + 1; omega),Below.heap_alloc _ _ _ (by omega),HW4.out,Below.heap_alloc _ _ _ h2]
   have HSZ5:Hid (((w4.alloc (.cells #[.int .u8 ro,.string rn,.slice ra rb rc,.slice rd re rf] 28)).setCell ⟨w.heap.size + 1,3,none⟩ (.slice (some ⟨w4.heap.size,0,none⟩) 1 1)).heap.size = w4.heap.size + 1):=hid (by simp)
   obtain ⟨w5,hw5⟩:∃ x,x = (w4.alloc (.cells #[.int .u8 ro,.string rn,.slice ra rb rc,.slice rd re rf] 28)).setCell ⟨w.heap.size + 1,3,none⟩ (.slice (some ⟨w4.heap.size,0,none⟩) 1 1):=⟨_,rfl⟩
   rw [<- hw5] at hk85 hz5 hrow5 HBW5 HOLD HSZ5 ⊢
   have hk85':w5.heap[w.heap.size + 1]? = some (.cells #[.int .u8 (op:Int),.string ⟨#[]⟩,.slice none 0 0,.slice (some ⟨w4.heap.size,0,none⟩) 1 1] 28 (0,0)):=by simpa using hk85
   have HZ5:=hid hz5
   have HROW:=hid hrow5
   have HS4:=hid s4
   obtain ⟨g4,hg4⟩:∃ b,b = w4.heap.size:=⟨_,rfl⟩
   rw [<- hg4] at hk85' HROW HSZ5 HS4 ⊢
   clear hrow hk85 hz5 hrow5 hw5 s4 s33 hg4
   have y0:=HK.blk_cell hk85' 0
   have y1:=HK.blk_cell hk85' 1
   have y2:=HK.blk_cell hk85' 2
   have y3:=HK.blk_cell hk85' 3
   have u0:=HK.blk_cell HZ5.out 0
   have u1:=HK.blk_cell HZ5.out 1
   have u2:=HK.blk_cell HZ5.out 2
   have u3:=HK.blk_cell HZ5.out 3
   have uf:=fun i => HK.blk_frozen HZ5.out i
   clear hk85'
   go_wp2_with (fail)
   refine bodyPost_ret (results_c1t2 (p:=4) (u:=5) (v:=6) (ty:=28) (by kernel_rfl) _ _ w.heap.size 28 _ (0,0) _ _ _ rfl rfl rfl (pset4 HZ5.out _ _ _ _) Tryz.underlying28 rfl (by kernel_rfl)) rfl ?_
   have hstate:erO x = e3 /\ plO x = plO y:=by
    rcases HYX.out with ⟨ob2,k2,hy,hx⟩ | ⟨k2,e,hy,hx⟩
    ·exact ⟨by rw [HE3.out,hy,hx] <;> rfl,by rw [hy,hx] <;> rfl⟩
    ·exact ⟨by rw [HE3.out,hy,hx] <;> rfl,by rw [hy,hx] <;> rfl⟩
   refine ⟨below4 HBW5.out (Nat.le_refl _) _ _ _ _,_,_,_,_,_,_,_,_,_,_,_,_,rfl,hstate.1.symm,by rw [hstate.2]; exact HS3.out,fun ob' k' h => ?_⟩
   rcases HYX.out with ⟨ob2,k2,hy,hx⟩ | ⟨k2,e,hy,hx⟩
   ·rw [hx] at h
    cases h
    have s33:=HS33.out
    have s4:=HS4.out
    have s5:=HSZ5.out
    have hf2:=(HF3.out ob2 _ hy).turn (T:=RS w (w.heap.size + 1) w5) (W':=w5) fun j hj => by
     have h1:=hj.1
     have h2:=hj.2
     simp only [World.size_alloc] at h1
     exact ⟨⟨by omega,by omega,by omega⟩,HOLD.out j (by omega) h2⟩
    have hsub:=fs_one_S hf2 HROW.out ⟨by omega,HK.blk_lt HROW.out,by omega⟩
    have hfin:FmS (RS w (w.heap.size + 1) w5) w5 (.mk op ⟨#[]⟩ [] [fmO ob2]) (.agg #[.int .u8 (op:Int),.string ⟨#[]⟩,.slice none 0 0,.slice (some ⟨g4,0,none⟩) 1 1]):=⟨⟨none,0,0⟩,⟨some ⟨g4,0,none⟩,1,1⟩,rfl,.nil _ _,hsub,by have:=HOPS.out; show op < 256; omega,by show (0:Nat) <= _; decide⟩
    exact fin_box hfin _ _ _ _
   ·rw [hx] at h; cases h
  case pos =>
   obtain ⟨t0,t1,tk,tz,tn⟩:=(HT.out.up (bl_al9 (.cells #[.int .u8 0,.string ⟨#[]⟩,.slice none 0 0,.slice none 0 0] 28))).cells HS1.out
   obtain ⟨nm,hnm⟩:∃ q,q = (tkA ts (k + 1)).t:=⟨_,rfl⟩
   have hnz:nm.size <= maxLen:=by rw [hnm]; have:maxLen = 9223372036854775807:=rfl; omega
   have HNZ:=hid hnz
   have hvc:=fun (W:World) => variable_call W nm hnz
   obtain ⟨q,hqv⟩:∃ q,q = checkB varB digitB nm:=⟨_,rfl⟩
   obtain ⟨kk,hkk⟩:∃ q,q = (tkA ts (k + 1)).k:=⟨_,rfl⟩
   have hiv:isVar ts (k + 1) = (decide (kk = 1) && q):=by unfold isVar; rw [hkk,hqv,hnm]
   rw [<- hqv] at hvc
   rw [<- hnm] at t1 hr
   rw [<- hkk] at t0
   have HVC:=hid hvc
   have HNM:=hid hnm
   have HIV:=hid hiv
   have HKK:=hid hkk
   have HOP0:=hid hop
   rw [if_pos hq] at hr
   have HR0:=hid hr
   clear hvc hqv hkk hnm hiv tk tz hnz t0 t1 tn hu hop hops hopi hk0 hT hS hsk hU hBA hz6 hs hr
   rcases hq with rfl | rfl
   ·have HOP:=hid HOP0.out
    simp only [show ((8:Nat):Int) = 8 from rfl] at HOP
    have HX4:Hid (¬ isVar ts (k + 1) = true -> x = .bad (k + 1) 50):=hid fun h => by have hx:=HR0.out; rw [if_neg h] at hx; cases hx; rfl
    go_enter Tryz.func135,Tryz.ntmps135
    go_upto_region 8 with ((go_at_call 139; ((with_reducible refine HOP.out.mono ?_); rintro _ w9 ⟨rfl,rfl⟩)))
    obtain ⟨o1,ho1⟩:∃ q,q = o + 3:=⟨_,rfl⟩
    obtain ⟨n1,hn1⟩:∃ q,q = nn - 1:=⟨_,rfl⟩
    obtain ⟨c1,hc1⟩:∃ q,q = c - 1:=⟨_,rfl⟩
    rw [<- ho1,<- hn1,<- hc1] at HS1  ⊢
    clear ho1 hn1 hc1 a1 b1 d1 e1 f1
    have ht:=(HT.out.up (show Below w.heap.size w ((w.alloc (.cells #[.int .u8 0,.string ⟨#[]⟩,.slice none 0 0,.slice none 0 0] 28)).alloc (.cells #[.int .u8 8,.string ⟨#[]⟩,.slice none 0 0,.slice none 0 0] 28)) from (bl_al9 _).alloc (by simp) _)).cells HS1.out
    rw [<- HKK.out,<- HNM.out] at ht
    obtain ⟨t0,t1,_,_,tn⟩:=ht
    by_cases hk1:kk = 1
    case neg =>
     have HX:=hid (HX4.out (by rw [HIV.out,decide_eq_false hk1]; simp))
     have e1:(kk == 1) = false:=by simpa using hk1
     have e2:(kk != 1) = true:=by simpa using hk1
     clear hk1
     go_wp2_with (fail)
     refine bodyPost_ret (results_c1t2 (p:=4) (u:=5) (v:=6) (ty:=28) (by kernel_rfl) _ _ w.heap.size 28 _ (0,0) _ _ _ rfl rfl rfl (HK.blk_alloc (HK.blk_new w (.cells #[.int .u8 0,.string ⟨#[]⟩,.slice none 0 0,.slice none 0 0] 28)) _) Tryz.underlying28 rfl (by kernel_rfl)) rfl ?_
     exact ⟨(bl_al9 _).alloc (by simp) _,_,_,_,_,_,_,_,_,_,_,_,_,rfl,by rw [HX.out]; rfl,by rw [HX.out]; exact HS1.out,fun ob' k' h => by rw [HX.out] at h; cases h⟩
    subst hk1
    rcases q with _ | _
    case false =>
     have HX:=hid (HX4.out (by rw [HIV.out]; simp))
     go_wp2_with ((go_at_call 66; ((with_reducible refine (HVC.out _).mono ?_); rintro _ w9 ⟨rfl,rfl⟩)))
     refine bodyPost_ret (results_c1t2 (p:=4) (u:=5) (v:=6) (ty:=28) (by kernel_rfl) _ _ w.heap.size 28 _ (0,0) _ _ _ rfl rfl rfl (HK.blk_alloc (HK.blk_new w (.cells #[.int .u8 0,.string ⟨#[]⟩,.slice none 0 0,.slice none 0 0] 28)) _) Tryz.underlying28 rfl (by kernel_rfl)) rfl ?_
     exact ⟨(bl_al9 _).alloc (by simp) _,_,_,_,_,_,_,_,_,_,_,_,_,rfl,by rw [HX.out]; rfl,by rw [HX.out]; exact HS1.out,fun ob' k' h => by rw [HX.out] at h; cases h⟩
    have hr:=HR0.out
    rw [if_pos (by rw [HIV.out]; rfl)] at hr
    have hk2:k + 1 < z:=HT.out.ok.en.ltk HS1.out.hk (by rw [<- HKK.out]; decide)
    obtain ⟨hs2,a2,b2,d2,e2,f2⟩:=SlT'.next HS1.out hk2
    have HS2:=hid hs2
    clear hs2
    clear hk2
    go_upto_region 13 with ((go_at_call 66; ((with_reducible refine (HVC.out _).mono ?_); rintro _ w9 ⟨rfl,rfl⟩)))
    clear t0 t1 tn
    obtain ⟨o2,ho2⟩:∃ q,q = o1 + 3:=⟨_,rfl⟩
    obtain ⟨n2,hn2⟩:∃ q,q = n1 - 1:=⟨_,rfl⟩
    obtain ⟨c2,hc2⟩:∃ q,q = c1 - 1:=⟨_,rfl⟩
    rw [<- ho2,<- hn2,<- hc2] at HS2  ⊢
    clear ho2 hn2 hc2 a2 b2 d2 e2 f2
    obtain ⟨y,hy,hyx⟩:∃ y,run true ts n .un (k + 1 + 1) (s + 1) = some y /\ ((∃ ob k2,y = .ok ob k2 /\ x = .ok (.fm (.mk 8 nm [] [fmO ob])) k2) ∨ (∃ k2 e,y = .bad k2 e /\ x = .bad k2 e)):=by
     rcases thenO_some hr with ⟨ob,k2,h1,h2⟩ | ⟨k2,e,h1,h2⟩
     ·exact ⟨_,h1,.inl ⟨ob,k2,rfl,by cases h2; rfl⟩⟩
     ·exact ⟨_,h1,.inr ⟨k2,e,rfl,h2⟩⟩
    have hwa:Below w.heap.size w ((w.alloc (.cells #[.int .u8 0,.string ⟨#[]⟩,.slice none 0 0,.slice none 0 0] 28)).alloc (.cells #[.int .u8 8,.string nm,.slice none 0 0,.slice none 0 0] 28)):=(bl_al9 _).alloc (by simp) _
    have hc2:=HU.out (k + 1 + 1) (s + 1) y hy ((w.alloc (.cells #[.int .u8 0,.string ⟨#[]⟩,.slice none 0 0,.slice none 0 0] 28)).alloc (.cells #[.int .u8 8,.string nm,.slice none 0 0,.slice none 0 0] 28)) o2 n2 c2 (HT.out.up hwa) HS2.out (by have:=HSK.out; omega)
    simp only [show (((s + 1:Nat)):Int) = (s:Int) + 1 from rfl] at hc2
    unfold RetRF at hc2
    have HC2:=hid hc2
    have HYX:=hid hyx
    have HWA:=hid hwa
    have hb8:=HK.blk_new (w.alloc (.cells #[.int .u8 0,.string ⟨#[]⟩,.slice none 0 0,.slice none 0 0] 28)) (.cells #[.int .u8 8,.string nm,.slice none 0 0,.slice none 0 0] 28)
    have hb4:=HK.blk_alloc (HK.blk_new w (.cells #[.int .u8 0,.string ⟨#[]⟩,.slice none 0 0,.slice none 0 0] 28)) (.cells #[.int .u8 8,.string nm,.slice none 0 0,.slice none 0 0] 28)
    simp only [World.size_alloc] at hb8
    have HB8:=hid hb8
    have HB4:=hid hb4
    clear hr hy hyx hwa hc2 hb8 hb4
    go_upto_region 14 with (first | fail | (go_at_call 135; ((with_reducible refine HC2.out.mono ?_); rintro _ w3 ⟨hB3,ro,rn,ra,rb,rc,rd,re,rf,o3,m3,d3,e3,rfl,her3,hsl3,hfm3⟩); have HE3:=hid her3; clear her3))
    have HB3:=hid hB3
    have HS3:=hid hsl3
    have HF3:=hid hfm3
    have hk8:=HK.blk_alloc ((hB3.block _ (HK.blk_lt HB8.out)).trans HB8.out) (.cells #[.int .u8 ro,.string rn,.slice ra rb rc,.slice rd re rf] 28)
    have hz4:=HK.blk_alloc ((hB3.block _ (HK.blk_lt HB4.out)).trans HB4.out) (.cells #[.int .u8 ro,.string rn,.slice ra rb rc,.slice rd re rf] 28)
    have hk9:=HK.blk_new w3 (.cells #[.int .u8 ro,.string rn,.slice ra rb rc,.slice rd re rf] 28)
    have HBW4:=hid ((HWA.out.trans (hB3.mono HWA.out.size)).alloc (HWA.out.trans (hB3.mono HWA.out.size)).size (.cells #[.int .u8 ro,.string rn,.slice ra rb rc,.slice rd re rf] 28))
    have hs3:=hB3.size
    simp only [World.size_alloc] at hs3
    clear hB3 hsl3 hfm3
    obtain ⟨b9,hb9⟩:∃ b,b = w3.heap.size:=⟨_,rfl⟩
    rw [<- hb9] at hk9 ⊢
    obtain ⟨w4,hw4⟩:∃ x,x = w3.alloc (.cells #[.int .u8 ro,.string rn,.slice ra rb rc,.slice rd re rf] 28):=⟨_,rfl⟩
    rw [<- hw4] at hk8 hz4 hk9 HBW4 ⊢
    have HW4:=hid hw4
    have HB9:=hid hb9
    have HS33:=hid hs3
    have HK8:=hid hk8
    have HZ4:=hid hz4
    clear hw4 hb9 hs3
    have y0:=HK.blk_cell hk8 0
    have y1:=HK.blk_cell hk8 1
    have y2:=HK.blk_cell hk8 2
    have y3:=HK.blk_cell hk8 3
    have yf:=fun i => HK.blk_frozen hk8 i
    have v0:=HK.blk_cell hk9 0
    have v1:=HK.blk_cell hk9 1
    have v2:=HK.blk_cell hk9 2
    have v3:=HK.blk_cell hk9 3
    have hne8:¬ w4.heap.size = w.heap.size + 1:=by rw [HW4.out]; simp only [World.size_alloc]; have:=HS33.out; omega
    have hk84:=HK.blk_alloc hk8 (.cells #[.int .u8 ro,.string rn,.slice ra rb rc,.slice rd re rf] 28)
    have x0:=HK.blk_cell hk84 0
    have x1:=HK.blk_cell hk84 1
    have x2:=HK.blk_cell hk84 2
    have x3:=HK.blk_cell hk84 3
    have xf:=fun i => HK.blk_frozen hk84 i
    clear hk8 hz4 hk9 hk84
    go_upto_region 15 with (fail)
    clear y0 y1 y2 y3 yf v0 v1 v2 v3 x0 x1 x2 x3 xf
    have hrow:=HK.blk_new w4 (.cells #[.int .u8 ro,.string rn,.slice ra rb rc,.slice rd re rf] 28)
    have s4:w4.heap.size = w3.heap.size + 1:=by rw [HW4.out]; simp
    have s33:=HS33.out
    have hk85:=HK.blk_set (HK.blk_alloc HK8.out (.cells #[.int .u8 ro,.string rn,.slice ra rb rc,.slice rd re rf] 28)) 3 (.slice (some ⟨w4.heap.size,0,none⟩) 1 1)
    have hz5:=HK.blk_set_other (HK.blk_alloc HZ4.out (.cells #[.int .u8 ro,.string rn,.slice ra rb rc,.slice rd re rf] 28)) (p:=⟨w.heap.size + 1,3,none⟩) (by show w.heap.size ≠ w.heap.size + 1; omega) (.slice (some ⟨w4.heap.size,0,none⟩) 1 1)
    have hrow5:=HK.blk_set_other hrow (p:=⟨w.heap.size + 1,3,none⟩) (by show w4.heap.size ≠ w.heap.size + 1; omega) (.slice (some ⟨w4.heap.size,0,none⟩) 1 1)
    have HBW5:=hid ((HBW4.out.alloc HBW4.out.size (.cells #[.int .u8 ro,.string rn,.slice ra rb rc,.slice rd re rf] 28)).setCell (p:=⟨w.heap.size + 1,3,none⟩) (by show w.heap.size <= w.heap.size + 1; omega) (.slice (some ⟨w4.heap.size,0,none⟩) 1 1))
    have HOLD:Hid (∀ j,w.heap.size + 1 < j -> j < w3.heap.size -> ((w4.alloc (.cells #[.int .u8 ro,.string rn,.slice ra rb rc,.slice rd re rf] 28)).setCell ⟨w.heap.size + 1,3,none⟩ (.slice (some ⟨w4.heap.size,0,none⟩) 1 1)).heap[j]? = w3.heap[j]?):=hid fun j h1 h2 => by
     rw [Below.heap_setCell _ _ _ _ (by show j ≠ w.heap.size + 1; omega),Below.heap_alloc _ _ _ (by omega),HW4.out,Below.heap_alloc _ _ _ h2]
    have HSZ5:Hid (((w4.alloc (.cells #[.int .u8 ro,.string rn,.slice ra rb rc,.slice rd re rf] 28)).setCell ⟨w.heap.size + 1,3,none⟩ (.slice (some ⟨w4.heap.size,0,none⟩) 1 1)).heap.size = w4.heap.size + 1):=hid (by simp)
    obtain ⟨w5,hw5⟩:∃ x,x = (w4.alloc (.cells #[.int .u8 ro,.string rn,.slice ra rb rc,.slice rd re rf] 28)).setCell ⟨w.heap.size + 1,3,none⟩ (.slice (some ⟨w4.heap.size,0,none⟩) 1 1):=⟨_,rfl⟩
    rw [<- hw5] at hk85 hz5 hrow5 HBW5 HOLD HSZ5 ⊢
    have hk85':w5.heap[w.heap.size + 1]? = some (.cells #[.int .u8 8,.string nm,.slice none 0 0,.slice (some ⟨w4.heap.size,0,none⟩) 1 1] 28 (0,0)):=by simpa using hk85
    have HZ5:=hid hz5
    have HROW:=hid hrow5
    have HS4:=hid s4
    obtain ⟨g4,hg4⟩:∃ b,b = w4.heap.size:=⟨_,rfl⟩
    rw [<- hg4] at hk85' HROW HSZ5 HS4 ⊢
    clear hrow hk85 hz5 hrow5 hw5 s4 s33 hg4
    have y0:=HK.blk_cell hk85' 0
    have y1:=HK.blk_cell hk85' 1
    have y2:=HK.blk_cell hk85' 2
    have y3:=HK.blk_cell hk85' 3
    have u0:=HK.blk_cell HZ5.out 0
    have u1:=HK.blk_cell HZ5.out 1
    have u2:=HK.blk_cell HZ5.out 2
    have u3:=HK.blk_cell HZ5.out 3
    have uf:=fun i => HK.blk_frozen HZ5.out i
    clear hk85'
    go_wp2_with (fail)
    refine bodyPost_ret (results_c1t2 (p:=4) (u:=5) (v:=6) (ty:=28) (by kernel_rfl) _ _ w.heap.size 28 _ (0,0) _ _ _ rfl rfl rfl (pset4 HZ5.out _ _ _ _) Tryz.underlying28 rfl (by kernel_rfl)) rfl ?_
    have hstate:erO x = e3 /\ plO x = plO y:=by
     rcases HYX.out with ⟨ob2,k2,hy,hx⟩ | ⟨k2,e,hy,hx⟩
     ·exact ⟨by rw [HE3.out,hy,hx] <;> rfl,by rw [hy,hx] <;> rfl⟩
     ·exact ⟨by rw [HE3.out,hy,hx] <;> rfl,by rw [hy,hx] <;> rfl⟩
    refine ⟨below4 HBW5.out (Nat.le_refl _) _ _ _ _,_,_,_,_,_,_,_,_,_,_,_,_,rfl,hstate.1.symm,by rw [hstate.2]; exact HS3.out,fun ob' k' h => ?_⟩
    rcases HYX.out with ⟨ob2,k2,hy,hx⟩ | ⟨k2,e,hy,hx⟩
    ·rw [hx] at h
     cases h
     have s33:=HS33.out
     have s4:=HS4.out
     have s5:=HSZ5.out
     have hf2:=(HF3.out ob2 _ hy).turn (T:=RS w (w.heap.size + 1) w5) (W':=w5) fun j hj => by
      have h1:=hj.1
      have h2:=hj.2
      simp only [World.size_alloc] at h1
      exact ⟨⟨by omega,by omega,by omega⟩,HOLD.out j (by omega) h2⟩
     have hsub:=fs_one_S hf2 HROW.out ⟨by omega,HK.blk_lt HROW.out,by omega⟩
     have hfin:FmS (RS w (w.heap.size + 1) w5) w5 (.mk 8 nm [] [fmO ob2]) (.agg #[.int .u8 8,.string nm,.slice none 0 0,.slice (some ⟨g4,0,none⟩) 1 1]):=⟨⟨none,0,0⟩,⟨some ⟨g4,0,none⟩,1,1⟩,rfl,.nil _ _,hsub,by show 8 < 256; decide,HNZ.out⟩
     exact fin_box hfin _ _ _ _
    ·rw [hx] at h; cases h
   ·have HOP:=hid HOP0.out
    simp only [show ((9:Nat):Int) = 9 from rfl] at HOP
    have HX4:Hid (¬ isVar ts (k + 1) = true -> x = .bad (k + 1) 50):=hid fun h => by have hx:=HR0.out; rw [if_neg h] at hx; cases hx; rfl
    go_enter Tryz.func135,Tryz.ntmps135
    go_upto_region 8 with ((go_at_call 139; ((with_reducible refine HOP.out.mono ?_); rintro _ w9 ⟨rfl,rfl⟩)))
    obtain ⟨o1,ho1⟩:∃ q,q = o + 3:=⟨_,rfl⟩
    obtain ⟨n1,hn1⟩:∃ q,q = nn - 1:=⟨_,rfl⟩
    obtain ⟨c1,hc1⟩:∃ q,q = c - 1:=⟨_,rfl⟩
    rw [<- ho1,<- hn1,<- hc1] at HS1  ⊢
    clear ho1 hn1 hc1 a1 b1 d1 e1 f1
    have ht:=(HT.out.up (show Below w.heap.size w ((w.alloc (.cells #[.int .u8 0,.string ⟨#[]⟩,.slice none 0 0,.slice none 0 0] 28)).alloc (.cells #[.int .u8 9,.string ⟨#[]⟩,.slice none 0 0,.slice none 0 0] 28)) from (bl_al9 _).alloc (by simp) _)).cells HS1.out
    rw [<- HKK.out,<- HNM.out] at ht
    obtain ⟨t0,t1,_,_,tn⟩:=ht
    by_cases hk1:kk = 1
    case neg =>
     have HX:=hid (HX4.out (by rw [HIV.out,decide_eq_false hk1]; simp))
     have e1:(kk == 1) = false:=by simpa using hk1
     have e2:(kk != 1) = true:=by simpa using hk1
     clear hk1
     go_wp2_with (fail)
     refine bodyPost_ret (results_c1t2 (p:=4) (u:=5) (v:=6) (ty:=28) (by kernel_rfl) _ _ w.heap.size 28 _ (0,0) _ _ _ rfl rfl rfl (HK.blk_alloc (HK.blk_new w (.cells #[.int .u8 0,.string ⟨#[]⟩,.slice none 0 0,.slice none 0 0] 28)) _) Tryz.underlying28 rfl (by kernel_rfl)) rfl ?_
     exact ⟨(bl_al9 _).alloc (by simp) _,_,_,_,_,_,_,_,_,_,_,_,_,rfl,by rw [HX.out]; rfl,by rw [HX.out]; exact HS1.out,fun ob' k' h => by rw [HX.out] at h; cases h⟩
    subst hk1
    rcases q with _ | _
    case false =>
     have HX:=hid (HX4.out (by rw [HIV.out]; simp))
     go_wp2_with ((go_at_call 66; ((with_reducible refine (HVC.out _).mono ?_); rintro _ w9 ⟨rfl,rfl⟩)))
     refine bodyPost_ret (results_c1t2 (p:=4) (u:=5) (v:=6) (ty:=28) (by kernel_rfl) _ _ w.heap.size 28 _ (0,0) _ _ _ rfl rfl rfl (HK.blk_alloc (HK.blk_new w (.cells #[.int .u8 0,.string ⟨#[]⟩,.slice none 0 0,.slice none 0 0] 28)) _) Tryz.underlying28 rfl (by kernel_rfl)) rfl ?_
     exact ⟨(bl_al9 _).alloc (by simp) _,_,_,_,_,_,_,_,_,_,_,_,_,rfl,by rw [HX.out]; rfl,by rw [HX.out]; exact HS1.out,fun ob' k' h => by rw [HX.out] at h; cases h⟩
    have hr:=HR0.out
    rw [if_pos (by rw [HIV.out]; rfl)] at hr
    have hk2:k + 1 < z:=HT.out.ok.en.ltk HS1.out.hk (by rw [<- HKK.out]; decide)
    obtain ⟨hs2,a2,b2,d2,e2,f2⟩:=SlT'.next HS1.out hk2
    have HS2:=hid hs2
    clear hs2
    clear hk2
    go_upto_region 13 with ((go_at_call 66; ((with_reducible refine (HVC.out _).mono ?_); rintro _ w9 ⟨rfl,rfl⟩)))
    clear t0 t1 tn
    obtain ⟨o2,ho2⟩:∃ q,q = o1 + 3:=⟨_,rfl⟩
    obtain ⟨n2,hn2⟩:∃ q,q = n1 - 1:=⟨_,rfl⟩
    obtain ⟨c2,hc2⟩:∃ q,q = c1 - 1:=⟨_,rfl⟩
    rw [<- ho2,<- hn2,<- hc2] at HS2  ⊢
    clear ho2 hn2 hc2 a2 b2 d2 e2 f2
    obtain ⟨y,hy,hyx⟩:∃ y,run true ts n .un (k + 1 + 1) (s + 1) = some y /\ ((∃ ob k2,y = .ok ob k2 /\ x = .ok (.fm (.mk 9 nm [] [fmO ob])) k2) ∨ (∃ k2 e,y = .bad k2 e /\ x = .bad k2 e)):=by
     rcases thenO_some hr with ⟨ob,k2,h1,h2⟩ | ⟨k2,e,h1,h2⟩
     ·exact ⟨_,h1,.inl ⟨ob,k2,rfl,by cases h2; rfl⟩⟩
     ·exact ⟨_,h1,.inr ⟨k2,e,rfl,h2⟩⟩
    have hwa:Below w.heap.size w ((w.alloc (.cells #[.int .u8 0,.string ⟨#[]⟩,.slice none 0 0,.slice none 0 0] 28)).alloc (.cells #[.int .u8 9,.string nm,.slice none 0 0,.slice none 0 0] 28)):=(bl_al9 _).alloc (by simp) _
    have hc2:=HU.out (k + 1 + 1) (s + 1) y hy ((w.alloc (.cells #[.int .u8 0,.string ⟨#[]⟩,.slice none 0 0,.slice none 0 0] 28)).alloc (.cells #[.int .u8 9,.string nm,.slice none 0 0,.slice none 0 0] 28)) o2 n2 c2 (HT.out.up hwa) HS2.out (by have:=HSK.out; omega)
    simp only [show (((s + 1:Nat)):Int) = (s:Int) + 1 from rfl] at hc2
    unfold RetRF at hc2
    have HC2:=hid hc2
    have HYX:=hid hyx
    have HWA:=hid hwa
    have hb8:=HK.blk_new (w.alloc (.cells #[.int .u8 0,.string ⟨#[]⟩,.slice none 0 0,.slice none 0 0] 28)) (.cells #[.int .u8 9,.string nm,.slice none 0 0,.slice none 0 0] 28)
    have hb4:=HK.blk_alloc (HK.blk_new w (.cells #[.int .u8 0,.string ⟨#[]⟩,.slice none 0 0,.slice none 0 0] 28)) (.cells #[.int .u8 9,.string nm,.slice none 0 0,.slice none 0 0] 28)
    simp only [World.size_alloc] at hb8
    have HB8:=hid hb8
    have HB4:=hid hb4
    clear hr hy hyx hwa hc2 hb8 hb4
    go_upto_region 14 with (first | fail | (go_at_call 135; ((with_reducible refine HC2.out.mono ?_); rintro _ w3 ⟨hB3,ro,rn,ra,rb,rc,rd,re,rf,o3,m3,d3,e3,rfl,her3,hsl3,hfm3⟩); have HE3:=hid her3; clear her3))
    have HB3:=hid hB3
    have HS3:=hid hsl3
    have HF3:=hid hfm3
    have hk8:=HK.blk_alloc ((hB3.block _ (HK.blk_lt HB8.out)).trans HB8.out) (.cells #[.int .u8 ro,.string rn,.slice ra rb rc,.slice rd re rf] 28)
    have hz4:=HK.blk_alloc ((hB3.block _ (HK.blk_lt HB4.out)).trans HB4.out) (.cells #[.int .u8 ro,.string rn,.slice ra rb rc,.slice rd re rf] 28)
    have hk9:=HK.blk_new w3 (.cells #[.int .u8 ro,.string rn,.slice ra rb rc,.slice rd re rf] 28)
    have HBW4:=hid ((HWA.out.trans (hB3.mono HWA.out.size)).alloc (HWA.out.trans (hB3.mono HWA.out.size)).size (.cells #[.int .u8 ro,.string rn,.slice ra rb rc,.slice rd re rf] 28))
    have hs3:=hB3.size
    simp only [World.size_alloc] at hs3
    clear hB3 hsl3 hfm3
    obtain ⟨b9,hb9⟩:∃ b,b = w3.heap.size:=⟨_,rfl⟩
    rw [<- hb9] at hk9 ⊢
    obtain ⟨w4,hw4⟩:∃ x,x = w3.alloc (.cells #[.int .u8 ro,.string rn,.slice ra rb rc,.slice rd re rf] 28):=⟨_,rfl⟩
    rw [<- hw4] at hk8 hz4 hk9 HBW4 ⊢
    have HW4:=hid hw4
    have HB9:=hid hb9
    have HS33:=hid hs3
    have HK8:=hid hk8
    have HZ4:=hid hz4
    clear hw4 hb9 hs3
    have y0:=HK.blk_cell hk8 0
    have y1:=HK.blk_cell hk8 1
    have y2:=HK.blk_cell hk8 2
    have y3:=HK.blk_cell hk8 3
    have yf:=fun i => HK.blk_frozen hk8 i
    have v0:=HK.blk_cell hk9 0
    have v1:=HK.blk_cell hk9 1
    have v2:=HK.blk_cell hk9 2
    have v3:=HK.blk_cell hk9 3
    have hne8:¬ w4.heap.size = w.heap.size + 1:=by rw [HW4.out]; simp only [World.size_alloc]; have:=HS33.out; omega
    have hk84:=HK.blk_alloc hk8 (.cells #[.int .u8 ro,.string rn,.slice ra rb rc,.slice rd re rf] 28)
    have x0:=HK.blk_cell hk84 0
    have x1:=HK.blk_cell hk84 1
    have x2:=HK.blk_cell hk84 2
    have x3:=HK.blk_cell hk84 3
    have xf:=fun i => HK.blk_frozen hk84 i
    clear hk8 hz4 hk9 hk84
    go_upto_region 15 with (fail)
    clear y0 y1 y2 y3 yf v0 v1 v2 v3 x0 x1 x2 x3 xf
    have hrow:=HK.blk_new w4 (.cells #[.int .u8 ro,.string rn,.slice ra rb rc,.slice rd re rf] 28)
    have s4:w4.heap.size = w3.heap.size + 1:=by rw [HW4.out]; simp
    have s33:=HS33.out
    have hk85:=HK.blk_set (HK.blk_alloc HK8.out (.cells #[.int .u8 ro,.string rn,.slice ra rb rc,.slice rd re rf] 28)) 3 (.slice (some ⟨w4.heap.size,0,none⟩) 1 1)
    have hz5:=HK.blk_set_other (HK.blk_alloc HZ4.out (.cells #[.int .u8 ro,.string rn,.slice ra rb rc,.slice rd re rf] 28)) (p:=⟨w.heap.size + 1,3,none⟩) (by show w.heap.size ≠ w.heap.size + 1; omega) (.slice (some ⟨w4.heap.size,0,none⟩) 1 1)
    have hrow5:=HK.blk_set_other hrow (p:=⟨w.heap.size + 1,3,none⟩) (by show w4.heap.size ≠ w.heap.size + 1; omega) (.slice (some ⟨w4.heap.size,0,none⟩) 1 1)
    have HBW5:=hid ((HBW4.out.alloc HBW4.out.size (.cells #[.int .u8 ro,.string rn,.slice ra rb rc,.slice rd re rf] 28)).setCell (p:=⟨w.heap.size + 1,3,none⟩) (by show w.heap.size <= w.heap.size + 1; omega) (.slice (some ⟨w4.heap.size,0,none⟩) 1 1))
    have HOLD:Hid (∀ j,w.heap.size + 1 < j -> j < w3.heap.size -> ((w4.alloc (.cells #[.int .u8 ro,.string rn,.slice ra rb rc,.slice rd re rf] 28)).setCell ⟨w.heap.size + 1,3,none⟩ (.slice (some ⟨w4.heap.size,0,none⟩) 1 1)).heap[j]? = w3.heap[j]?):=hid fun j h1 h2 => by
     rw [Below.heap_setCell _ _ _ _ (by show j ≠ w.heap.size + 1; omega),Below.heap_alloc _ _ _ (by omega),HW4.out,Below.heap_alloc _ _ _ h2]
    have HSZ5:Hid (((w4.alloc (.cells #[.int .u8 ro,.string rn,.slice ra rb rc,.slice rd re rf] 28)).setCell ⟨w.heap.size + 1,3,none⟩ (.slice (some ⟨w4.heap.size,0,none⟩) 1 1)).heap.size = w4.heap.size + 1):=hid (by simp)
    obtain ⟨w5,hw5⟩:∃ x,x = (w4.alloc (.cells #[.int .u8 ro,.string rn,.slice ra rb rc,.slice rd re rf] 28)).setCell ⟨w.heap.size + 1,3,none⟩ (.slice (some ⟨w4.heap.size,0,none⟩) 1 1):=⟨_,rfl⟩
    rw [<- hw5] at hk85 hz5 hrow5 HBW5 HOLD HSZ5 ⊢
    have hk85':w5.heap[w.heap.size + 1]? = some (.cells #[.int .u8 9,.string nm,.slice none 0 0,.slice (some ⟨w4.heap.size,0,none⟩) 1 1] 28 (0,0)):=by simpa using hk85
    have HZ5:=hid hz5
    have HROW:=hid hrow5
    have HS4:=hid s4
    obtain ⟨g4,hg4⟩:∃ b,b = w4.heap.size:=⟨_,rfl⟩
    rw [<- hg4] at hk85' HROW HSZ5 HS4 ⊢
    clear hrow hk85 hz5 hrow5 hw5 s4 s33 hg4
    have y0:=HK.blk_cell hk85' 0
    have y1:=HK.blk_cell hk85' 1
    have y2:=HK.blk_cell hk85' 2
    have y3:=HK.blk_cell hk85' 3
    have u0:=HK.blk_cell HZ5.out 0
    have u1:=HK.blk_cell HZ5.out 1
    have u2:=HK.blk_cell HZ5.out 2
    have u3:=HK.blk_cell HZ5.out 3
    have uf:=fun i => HK.blk_frozen HZ5.out i
    clear hk85'
    go_wp2_with (fail)
    refine bodyPost_ret (results_c1t2 (p:=4) (u:=5) (v:=6) (ty:=28) (by kernel_rfl) _ _ w.heap.size 28 _ (0,0) _ _ _ rfl rfl rfl (pset4 HZ5.out _ _ _ _) Tryz.underlying28 rfl (by kernel_rfl)) rfl ?_
    have hstate:erO x = e3 /\ plO x = plO y:=by
     rcases HYX.out with ⟨ob2,k2,hy,hx⟩ | ⟨k2,e,hy,hx⟩
     ·exact ⟨by rw [HE3.out,hy,hx] <;> rfl,by rw [hy,hx] <;> rfl⟩
     ·exact ⟨by rw [HE3.out,hy,hx] <;> rfl,by rw [hy,hx] <;> rfl⟩
    refine ⟨below4 HBW5.out (Nat.le_refl _) _ _ _ _,_,_,_,_,_,_,_,_,_,_,_,_,rfl,hstate.1.symm,by rw [hstate.2]; exact HS3.out,fun ob' k' h => ?_⟩
    rcases HYX.out with ⟨ob2,k2,hy,hx⟩ | ⟨k2,e,hy,hx⟩
    ·rw [hx] at h
     cases h
     have s33:=HS33.out
     have s4:=HS4.out
     have s5:=HSZ5.out
     have hf2:=(HF3.out ob2 _ hy).turn (T:=RS w (w.heap.size + 1) w5) (W':=w5) fun j hj => by
      have h1:=hj.1
      have h2:=hj.2
      simp only [World.size_alloc] at h1
      exact ⟨⟨by omega,by omega,by omega⟩,HOLD.out j (by omega) h2⟩
     have hsub:=fs_one_S hf2 HROW.out ⟨by omega,HK.blk_lt HROW.out,by omega⟩
     have hfin:FmS (RS w (w.heap.size + 1) w5) w5 (.mk 9 nm [] [fmO ob2]) (.agg #[.int .u8 9,.string nm,.slice none 0 0,.slice (some ⟨g4,0,none⟩) 1 1]):=⟨⟨none,0,0⟩,⟨some ⟨g4,0,none⟩,1,1⟩,rfl,.nil _ _,hsub,by show 9 < 256; decide,HNZ.out⟩
     exact fin_box hfin _ _ _ _
    ·rw [hx] at h; cases h
end Go.Proofs.YtdobflpbkfkmgaaGreatDoor
