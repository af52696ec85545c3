import Derived.Test.YtdobflpbkfkmgaaGreatDoorR5f
namespace Go.Proofs.YtdobflpbkfkmgaaGreatDoor
open Go.RowKit Go.HK Go.FR Lib
set_option linter.unusedVariables false
set_option linter.unusedSimpArgs false
set_option linter.unusedSectionVars false
theorem own_below {w w':World} {b e size n:Nat} {v:Value} {xs:List Value} (h:w.ownsRow b e size v n xs) (hb:Below w.heap.size w w'):w'.ownsRow b e size v n xs :=
 ⟨h.1,h.2.imp id fun ⟨g,c,cur,h0,h1,h2,h3⟩ => ⟨g,c,cur,h0,h1,(hb.block g (HK.blk_lt h2)).trans h2,h3⟩⟩
structure LsR (w:World) (L:List (Tm × SL)) (v:Value) (wr:World):Prop where
 hB:Below w.heap.size w wr
 own:wr.ownsRow w.heap.size 36 3 v L.length (celT L)
 el:∀ p ∈ L,IsTs (fun j => SL' w.heap.size wr.heap.size j /\ some j ≠ v.ownBlock) wr p.2 p.1.args /\ p.1.name.size <= maxLen
theorem LsR.next {w:World} {L:List (Tm × SL)} {v:Value} {wr:World} (h:LsR w L v wr) {w2 wa w3:World} {v':Value} {p:Tm × SL} (h2:Below wr.heap.size wr w2) (ha:Below w2.heap.size w2 wa) (hp:IsTs (RN wr w2) w2 p.2 p.1.args /\ p.1.name.size <= maxLen)
  (ho:w3.ownsRow w.heap.size 36 3 v' (L.length + 1) (celT L ++ tmV p.1 p.2)) (hg:wa.grownBy w3 v.ownBlock) (hat:v'.ownBlock = v.ownBlock ∨ v'.ownBlock = some wa.heap.size):LsR w (L ++ [p]) v' w3:=by
 have hge:∀ j,v.ownBlock = some j -> w.heap.size <= j /\ j < wr.heap.size:=h.own.lt
 have hs0:=h.hB.size
 have hs2:=h2.size
 have hsa:=ha.size
 have hbl:∀ j,j < w2.heap.size -> some j ≠ v.ownBlock -> w3.heap[j]? = w2.heap[j]?:=fun j h3 h4 => (hg.block j (by omega) h4).trans (ha.block j h3)
 have hsz:w2.heap.size <= w3.heap.size:=Nat.le_trans hsa hg.size
 have hne:∀ j,j < w2.heap.size -> some j ≠ v.ownBlock -> some j ≠ v'.ownBlock:=fun j h1 h3 => by
  rcases hat with e | e
  ·rw [e]; exact h3
  ·rw [e]; intro e2; have:=Option.some.inj e2; omega
 have hBa:Below w.heap.size w wa:=(h.hB.trans (h2.mono hs0)).trans (ha.mono (by omega))
 refine ⟨hBa.grown hg (by omega) (fun j e => (hge j e).1),?_,fun q hq => ?_⟩
 ·rw [List.length_append,show celT (L ++ [p]) = celT L ++ tmV p.1 p.2 by simp [celT]]
  exact ho
 ·rcases List.mem_append.1 hq with hq | hq
  ·have hq:=h.el q hq
   have hT:∀ j,(SL' w.heap.size wr.heap.size j /\ some j ≠ v.ownBlock) -> (SL' w.heap.size w3.heap.size j /\ some j ≠ v'.ownBlock) /\ w3.heap[j]? = wr.heap[j]?:=fun j hj => by
    have h5:=Nat.lt_of_lt_of_le hj.1.2 hs2
    exact ⟨⟨⟨hj.1.1,Nat.lt_of_lt_of_le h5 hsz⟩,hne j h5 hj.2⟩,(hbl j h5 hj.2).trans (h2.block j hj.1.2)⟩
   exact ⟨hq.1.turn hT,hq.2⟩
  ·rw [List.mem_singleton] at hq
   subst hq
   have hT:∀ j,RN wr w2 j -> (SL' w.heap.size w3.heap.size j /\ some j ≠ v'.ownBlock) /\ w3.heap[j]? = w2.heap[j]?:=fun j hj => by
    have h1:=hj.1
    have h2':=hj.2
    have h6:some j ≠ v.ownBlock:=fun e => by have:=(hge j e.symm).2; omega
    exact ⟨⟨⟨by omega,by omega⟩,hne j h2' h6⟩,hbl j h2' h6⟩
   exact ⟨hp.1.turn hT,hp.2⟩
theorem LsR.value {w:World} {L:List (Tm × SL)} {v:Value} {wr:World} (h:LsR w L v wr) (hn:1 <= L.length):∃ s:SL,v = s.v /\ IsTs (fun j => w.heap.size <= j /\ j < wr.heap.size) wr s (L.map (·.1)):=by
 obtain ⟨g',c',rfl,h1,h2⟩:=own_form9 h.own hn
 refine ⟨⟨some ⟨g',0,none⟩,L.length,c'⟩,rfl,ts_row L (fun i v hv => ?_) ⟨h1,h2⟩ (fun p hp => ?_) rfl⟩
 ·have hlt:i < L.length * 3:=by
   rw [<- h.own.1]
   exact (List.getElem?_eq_some_iff.1 hv).1
  rw [h.own.cellAt i hlt]
  exact hv
 ·have hq:=h.el p hp
  exact ⟨hq.1.turn fun j hj => ⟨hj.1,rfl⟩,hq.2⟩
theorem LT.le {ts:List Tok} {z g n m:Nat} (h:LT ts z g n) (hm:m <= n):LT ts z g m:=fun k s x hx => h k s x (run_le true ts hm hx)
def nLen:Value -> Nat
 | .slice _ n _ => n
 | _ => 0
def LtI (ts:List Tok) (z g N s:Nat) (y:Ot) (w:World) (wr:World) (v0 v7:Value):Prop :=
 ∃ (v:Value) (o nn c kk m:Nat) (L:List (Tm × SL)),v = v7 /\ v0 = .slice (some ⟨g,o,none⟩) nn c /\ SlT' z kk o nn c /\ s <= kk /\ kk < z /\ m <= N /\ L.length <= kk /\ run true ts m (.list (L.map (·.1))) (kk + 1) (s + 1) = some y /\ LsR w L v wr
set_option maxRecDepth 100000 in
set_option maxHeartbeats 8000000 in
theorem rterms_of {ts:List Tok} {z g n:Nat} (hTE:LT ts z g n):LA ts z g (n + 1):=by
 intro k s x hr w o nn c hT hS hsk
 unfold run at hr
 have hz6:=hT.ok.le
 have s6:(s:Int) <= 100000:=by have:=hS.hk; omega
 have s0:(0:Int) <= (s:Int):=by omega
 have HT:=hid hT
 have HS0:=hid hS
 have HSK:=hid hsk
 have HTE:=hid hTE
 have HZ6:=hid hz6
 have hg:=rsg_call hT hS ⟨#[40]⟩ (by unfold Sg; decide)
 rw [show bys (⟨#[40]⟩:ByteArray) = [40] from rfl] at hg
 have HG0:=hid hg
 clear hT hS hsk hTE hz6 hg
 by_cases h40:txt ts k = [40]
 case neg =>
  rw [if_neg h40] at hr
  have HX:Hid (x = .ok (.ts []) k):=hid (by cases hr; rfl)
  rw [decide_eq_false h40] at HG0
  clear hr h40
  go_enter Tryz.func68,Tryz.ntmps68
  go_wp2_with ((go_at_call 44; ((with_reducible refine HG0.out.mono ?_); rintro _ w9 ⟨rfl,rfl⟩)))
  refine bodyPost_ret (v:=.tuple #[.slice none 0 0,.slice (some ⟨g,o,none⟩) nn c,.int .i64 0]) (by simp [results,Tryz.results68,go_sem]) rfl ?_
  exact ⟨Below.refl _ _,_,_,_,_,_,_,_,rfl,by rw [HX.out]; rfl,by rw [HX.out]; exact HS0.out,fun ob' k' h => by rw [HX.out] at h; cases h; exact .nil _ _⟩
 rw [if_pos h40] at hr
 rw [decide_eq_true h40] at HG0
 have hk0:k < z:=HT.out.ok.en.lt HS0.out.hk (by rw [h40]; decide)
 obtain ⟨y,hy,hyx⟩:∃ y,run true ts n (.list []) (k + 1) (s + 1) = some y /\ ((∃ ob k2,y = .ok ob k2 /\ (if txt ts k2 = [41] then some (Ot.ok (.ts (tsO ob)) (k2 + 1)) else some (Ot.bad k2 50)) = some x) ∨ (∃ k2 e,y = .bad k2 e /\ x = .bad k2 e)):=by
  rcases thenO_some hr with ⟨ob,k2,h1,h2⟩ | ⟨k2,e,h1,h2⟩
  ·exact ⟨_,h1,.inl ⟨ob,k2,rfl,h2⟩⟩
  ·exact ⟨_,h1,.inr ⟨k2,e,rfl,h2⟩⟩
 have hI:LtI ts z g n s y w w (.slice (some ⟨g,o,none⟩) nn c) (.slice none 0 0):=⟨_,o,nn,c,k,n,[],rfl,rfl,HS0.out,HSK.out,hk0,Nat.le_refl _,Nat.zero_le _,hy,Below.refl _ _,World.ownsRow_nil _ _ _ _,fun p hp => by cases hp⟩
 have HI:=hid hI
 have HYX:=hid hyx
 clear hr hy hyx hI hk0 h40
 go_enter Tryz.func68,Tryz.ntmps68
 go_upto_region 3 with ((go_at_call 44; ((with_reducible refine HG0.out.mono ?_); rintro _ w9 ⟨rfl,rfl⟩)))
 go_wp2_with (fail)
 go_loopw [0,7] (fun v0 v7 wr => LtI ts z g n s y w wr v0 v7) (fun v0 v7 _ => nLen v0)
 case atStart => exact HI.out
 case round =>
  obtain ⟨v,o,nn,c,kk,m,L,rfl,rfl,hS,hsk,hkz,hm,hlen,hrun,hL⟩:=hrel
  have HBW:=hid hL.hB
  have HL:=hid hL
  have HSL:=hid hS
  have HSK2:=hid hsk
  have HKZ:=hid hkz
  have HLEN:=hid hlen
  have HM:=hid hm
  obtain ⟨m',rfl⟩:∃ m',m = m' + 1:=by
   cases m with
   | zero => cases hrun
   | succ m' => exact ⟨m',rfl⟩
  unfold run at hrun
  obtain ⟨hs1,a1,b1,d1,e1,f1⟩:=SlT'.next hS hkz
  have HS1:=hid hs1
  clear hs1
  obtain ⟨y2,hy2,hyy⟩:∃ y2,run true ts m' .term (kk + 1) (s + 1) = some y2 /\ ((∃ ob k2,y2 = .ok ob k2 /\ (if txt ts k2 = [44] then run true ts m' (.list (L.map (·.1) ++ [tO ob])) (k2 + 1) (s + 1) else some (Ot.ok (.ts (L.map (·.1) ++ [tO ob])) k2)) = some y) ∨ (∃ k2 e,y2 = .bad k2 e /\ y = .bad k2 e)):=by
   rcases thenO_some hrun with ⟨ob,k2,h1,h2⟩ | ⟨k2,e,h1,h2⟩
   ·exact ⟨_,h1,.inl ⟨ob,k2,rfl,h2⟩⟩
   ·exact ⟨_,h1,.inr ⟨k2,e,rfl,h2⟩⟩
  have hin:=run_iz HT.out.ok.en m' _ _ _ _ hkz hy2
  have hc2:=(HTE.out.le (Nat.le_trans (Nat.le_succ m') hm)) (kk + 1) (s + 1) y2 hy2 wr (o + 3) (nn - 1) (c - 1) (HT.out.up hL.hB) HS1.out (by omega)
  simp only [show (((s + 1:Nat)):Int) = (s:Int) + 1 from rfl] at hc2
  unfold RetRT at hc2
  have HC2:=hid hc2
  have HYY:=hid hyy
  have HIN:=hid hin
  obtain ⟨N,hN⟩:∃ N,N = L.length:=⟨_,rfl⟩
  have HNL:=hid hN
  have hL6:N <= 100000:=by rw [hN]; have:=HZ6.out; omega
  clear hrun hy2 hyy hin hc2 hL hS hsk hkz hlen hm hN
  go_wp2_with (fail)
  go_at_call 36
  with_reducible refine HC2.out.mono ?_
  rintro _ w2 ⟨hB2,tb,tn,ta,tc,td,o2,n2,c2,e2,rfl,her2,hsl2,hfm2⟩
  have HE2:=hid her2
  have HSL2:=hid hsl2
  have HF2:=hid hfm2
  have HB2:=hid hB2
  have hk8:=HK.blk_new w2 (.cells #[.bool tb,.string tn,.slice ta tc td] 36)
  have HOW:Hid (w2.ownsRow w.heap.size 36 3 v N (celT L)):=hid (by rw [HNL.out]; exact own_below HL.out.own hB2)
  have h22:=hB2.size
  have h20:=HBW.out.size
  have H22:=hid h22
  have H20:=hid h20
  clear her2 hsl2 hfm2 hB2 a1 b1 d1 e1 f1 h22 h20
  go_upto_region 5 with (fail)
  obtain ⟨b8,hb8⟩:∃ b,b = w2.heap.size:=⟨_,rfl⟩
  rw [<- hb8] at hk8 ⊢
  obtain ⟨w3,hw3⟩:∃ x,x = w2.alloc (.cells #[.bool tb,.string tn,.slice ta tc td] 36):=⟨_,rfl⟩
  rw [<- hw3] at hk8 ⊢
  have HW3:=hid hw3
  have HB8:=hid hb8
  have HOW3:Hid (w3.ownsRow w.heap.size 36 3 v N (celT L)):=hid (by rw [hw3]; exact HOW.out.alloc _)
  have HBW3:Hid (Below w.heap.size w w3):=hid (by rw [hw3]; exact (HBW.out.trans (HB2.out.mono H20.out)).alloc (Nat.le_trans H20.out H22.out) _)
  clear hw3 hb8
  have y0:=HK.blk_cell hk8 0
  have y1:=HK.blk_cell hk8 1
  have y2':=HK.blk_cell hk8 2
  clear hk8
  rcases HYY.out with ⟨ob,k2,hy,hx⟩ | ⟨k2,e,hy,hx⟩
  case inr =>
   have HX:Hid (x = .bad k2 e):=hid (by
    rcases HYX.out with ⟨ob',k',h1,_⟩ | ⟨k',e',h1,h2⟩
    ·rw [hx] at h1; cases h1
    ·rw [hx] at h1; cases h1; exact h2)
   have he:e = 50 ∨ e = 51:=by
    have h1:=HIN.out
    rw [hy] at h1
    exact h1.2.2
   have he2:e2 = (e:Int):=by rw [HE2.out,hy]; rfl
   have hsl:SlT' z k2 o2 n2 c2:=by have h:=HSL2.out; rw [hy] at h; exact h
   have HSL':=hid hsl
   have hen:((e:Int) == 0) = false:=by simp; omega
   have hen2:((e:Int) != 0) = true:=by simp; omega
   subst he2
   clear hx hy he hsl HE2
   go_wp2_with (fail)
   refine bodyPost_ret (v:=.tuple #[.slice none 0 0,.slice (some ⟨g,o2,none⟩) n2 c2,.int .i64 (e:Int)]) (by simp [results,Tryz.results68,go_sem]) rfl ?_
   exact ⟨HBW3.out,_,_,_,_,_,_,_,rfl,by rw [HX.out]; rfl,by rw [HX.out]; exact HSL'.out,fun ob' k' h => by rw [HX.out] at h; cases h⟩
  have he2:e2 = 0:=by rw [HE2.out,hy]; rfl
  subst he2
  have hsl:SlT' z k2 o2 n2 c2:=by have h:=HSL2.out; rw [hy] at h; exact h
  have HSL':=hid hsl
  have hval:=HF2.out ob k2 hy
  obtain ⟨hvb,hvn,hvz,hvt⟩:=hval
  have hkk:kk + 1 <= k2 /\ k2 <= z /\ kk + 1 < k2:=by have h1:=HIN.out; rw [hy] at h1; exact ⟨h1.1,h1.2.1,h1.2.2 rfl⟩
  obtain ⟨l2,hl2⟩:∃ l,l = tO ob:=⟨_,rfl⟩
  rw [<- hl2] at hvb hvn hvt hx
  have HVB:=hid hvb
  have HVN:=hid hvn
  have HVZ:=hid hvz
  have HVT:=hid hvt
  have HKK:=hid hkk
  have hsg:=fun (W:World) (hB:Below w.heap.size w W) => rsg_call (HT.out.up hB) hsl ⟨#[44]⟩ (by unfold Sg; decide)
  rw [show bys (⟨#[44]⟩:ByteArray) = [44] from rfl] at hsg
  have HCM:=hid hsg
  have hsg2:=fun (W:World) (hB:Below w.heap.size w W) => rsg_call (HT.out.up hB) hsl ⟨#[41]⟩ (by unfold Sg; decide)
  rw [show bys (⟨#[41]⟩:ByteArray) = [41] from rfl] at hsg2
  have HCL:=hid hsg2
  have HNX:Hid (∀ (w4:World) (v':Value),w4.ownsRow w.heap.size 36 3 v' (N + 1) (celT L ++ [.bool tb,.string tn,.slice ta tc td]) -> (w3.alloc (.cells #[.bool tb,.string tn,.slice ta tc td] 36)).grownBy w4 v.ownBlock -> (v'.ownBlock = v.ownBlock ∨ v'.ownBlock = some (w3.alloc (.cells #[.bool tb,.string tn,.slice ta tc td] 36)).heap.size) -> LsR w (L ++ [(l2,⟨ta,tc,td⟩)]) v' w4):=hid fun w4 v' ho hg hat => by
   refine HL.out.next (w2:=w2) (wa:=w3.alloc (.cells #[.bool tb,.string tn,.slice ta tc td] 36)) HB2.out ?_ ⟨HVT.out,by rw [<- HVN.out]; exact HVZ.out⟩ ?_ hg hat
   ·rw [HW3.out]
    exact (bl_al9 _).alloc (by simp) _
   ·rw [<- HNL.out]
    simpa [tmV,SL.v,<- HVB.out,<- HVN.out] using ho
  clear hsl hvb hvn hvz hvt hkk hl2 hsg hsg2 hy
  go_upto_region 9 with (at_builtin; (refine wpList_app_any rfl elem22 _ _ rfl v w.heap.size N (celT L) rfl (HOW3.out.alloc _) ⟨w3.heap.size,0,none⟩ 1 1 [.bool tb,.string tn,.slice ta tc td] rfl rfl (fun i u hi => by rw [addr_add0,HK.blk_cell (HK.blk_new _ _),List.getElem?_toArray]; exact hi) (by intro u hu; simp at hu; rcases hu with rfl | rfl | rfl <;> rfl) (by simp only [maxLen]; omega) (by omega) (by have:=HBW3.out.size; simp; omega) ?_; intro v' w4 hown' hgrow _ hat; have HN4:=hid (HNX.out w4 v' hown' hgrow hat); clear hown' hgrow hat))
  clear y0 y1 y2'
  have hcm:=HCM.out w4 HN4.out.hB
  have hcl:=HCL.out w4 HN4.out.hB
  have HC4:=hid hcm
  have HC5:=hid hcl
  clear hcm hcl
  by_cases h44:txt ts k2 = [44]
  case pos =>
   rw [if_pos h44] at hx
   have HX:=hid hx
   rw [decide_eq_true h44] at HC4
   have hk2z:k2 < z:=HT.out.ok.en.lt HKK.out.2.1 (by rw [h44]; decide)
   have HK2Z:=hid hk2z
   clear hx h44 hk2z
   go_wp2_with ((go_at_call 44; ((with_reducible refine HC4.out.mono ?_); rintro _ w9 ⟨rfl,rfl⟩)))
   go_roundw
   case rel => exact ⟨_,o2,n2,c2,k2,m',L ++ [(l2,⟨ta,tc,td⟩)],rfl,rfl,HSL'.out,by have:=HKK.out.1; have:=HSK2.out; omega,HK2Z.out,by have:=HM.out; omega,by have:=HKK.out.1; have:=HLEN.out; simp; omega,by rw [List.map_append]; exact HX.out,HN4.out⟩
   case measure =>
    have h1:=HSL'.out.hn
    have h2:=HSL.out.hn
    have h3:=HKK.out
    simp only [nLen]
    omega
  rw [if_neg h44] at hx
  rw [decide_eq_false h44] at HC4
  have hy2:y = .ok (.ts (L.map (·.1) ++ [l2])) k2:=by cases hx; rfl
  have hx2:(if txt ts k2 = [41] then some (Ot.ok (.ts (L.map (·.1) ++ [l2])) (k2 + 1)) else some (Ot.bad k2 50)) = some x:=by
   rcases HYX.out with ⟨ob',k',h1,h2⟩ | ⟨k',e',h1,_⟩
   ·rw [hy2] at h1; cases h1; exact h2
   ·rw [hy2] at h1; cases h1
  clear hx hy2 h44
  by_cases h41:txt ts k2 = [41]
  case neg =>
   rw [if_neg h41] at hx2
   rw [decide_eq_false h41] at HC5
   have HX:Hid (x = .bad k2 50):=hid (by cases hx2; rfl)
   clear hx2 h41
   go_wp2_with (first | (go_at_call 44; ((with_reducible refine HC4.out.mono ?_); rintro _ w9 ⟨rfl,rfl⟩)) | (go_at_call 44; ((with_reducible refine HC5.out.mono ?_); rintro _ w9 ⟨rfl,rfl⟩)))
   refine bodyPost_ret (v:=.tuple #[.slice none 0 0,.slice (some ⟨g,o2,none⟩) n2 c2,.int .i64 50]) (by simp [results,Tryz.results68,go_sem]) rfl ?_
   exact ⟨HN4.out.hB,_,_,_,_,_,_,_,rfl,by rw [HX.out]; rfl,by rw [HX.out]; exact HSL'.out,fun ob' k' h => by rw [HX.out] at h; cases h⟩
  rw [if_pos h41] at hx2
  rw [decide_eq_true h41] at HC5
  have HX:Hid (x = .ok (.ts (L.map (·.1) ++ [l2])) (k2 + 1)):=hid (by cases hx2; rfl)
  have hk2:k2 < z:=HT.out.ok.en.lt HSL'.out.hk (by rw [h41]; decide)
  obtain ⟨hs2,a2,b2,d2,e2,f2⟩:=SlT'.next HSL'.out hk2
  have HS2:=hid hs2
  clear hs2
  obtain ⟨sv,hsv,hsts⟩:=HN4.out.value (by simp)
  have HSV:=hid hsv
  have HSTS:=hid hsts
  clear hx2 h41 hk2 hsv hsts
  go_upto_region 12 with (first | (go_at_call 44; ((with_reducible refine HC4.out.mono ?_); rintro _ w9 ⟨rfl,rfl⟩)) | (go_at_call 44; ((with_reducible refine HC5.out.mono ?_); rintro _ w9 ⟨rfl,rfl⟩)))
  go_region
  all_goals (
   go_wp2_with (fail)
   refine bodyPost_ret (v:=.tuple #[v',.slice (some ⟨g,o2 + 3,none⟩) (n2 - 1) (c2 - 1),.int .i64 0]) (by simp [results,Tryz.results68,go_sem]) rfl ?_
   rw [HSV.out]
   refine ⟨bl_dr9 HN4.out.hB,_,_,_,_,_,_,_,rfl,by rw [HX.out]; rfl,by rw [HX.out]; exact HS2.out,fun ob' k' h => ?_⟩
   rw [HX.out] at h
   cases h
   have h:=HSTS.out
   rw [List.map_append] at h
   exact h.turn fun j hj => ⟨hj,rfl⟩)
theorem doneR_all (ts:List Tok) (z g:Nat):∀ n,DoneR ts z g n
 | 0 => ⟨fun _ _ _ h => (by cases h),fun _ _ _ h => (by cases h),fun _ _ _ h => (by cases h),fun _ _ _ h => (by cases h),fun _ _ _ h => (by cases h),fun _ _ _ h => (by cases h),fun _ _ _ h => (by cases h),fun _ _ _ h => (by cases h),fun _ _ _ h => (by cases h)⟩
 | n + 1 => by
  have h:=doneR_all ts z g n
  exact ⟨lev0 h.f1,lev1 h.f2 h.f1,lev2 h.f3 h.f2,lev3 h.f4,lev4 h.f5,runary_of h.un h.ba,rbasic_of h.f0 h.ar,rterms_of h.te,rterm5_of h.ar⟩
end Go.Proofs.YtdobflpbkfkmgaaGreatDoor
