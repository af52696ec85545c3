import Derived.Test.YtdobflpbkfkmgaaGreatDoorR6m
namespace Go.Proofs.YtdobflpbkfkmgaaGreatDoor
open Go.RowKit Go.HK Go.FR Lib
set_option linter.unusedVariables false
set_option linter.unusedSimpArgs false
set_option linter.unusedSectionVars false
def eT (M:Nat) (ts:List Tok) (x:Ot):An Tm:=if M < plO x then .bad (tkA ts M).p 50 else resT ts x
theorem endX_eT (M:Nat) (ts:List Tok) (x:Ot):endX false M ts x = ((anP (eT M ts x):Int),anE (eT M ts x)):=by
 unfold endX eT
 by_cases h:M < plO x
 ·rw [if_pos ⟨rfl,h⟩,if_pos h]; rfl
 ·rw [if_neg (fun hh => h hh.2),if_neg h]
  cases x with
  | bad k e => rfl
  | ok o k =>
   simp only [resT]
   split <;> rfl
theorem eT_ok {M:Nat} {ts:List Tok} {x:Ot} {f:Tm} (h:eT M ts x = .ok f):∃ ob k,x = .ok ob k /\ f = tO ob:=by
 unfold eT at h
 split at h
 ·cases h
 ·cases x with
  | bad k e => cases h
  | ok o k =>
   simp only [resT] at h
   split at h
   ·cases h; exact ⟨o,k,rfl,rfl⟩
   ·cases h
theorem eT_bad {M:Nat} {ts:List Tok} {x:Ot} {p:Nat} {e:Int} (hx:∀ k e,x = .bad k e -> e = 50 ∨ e = 51) (h:eT M ts x = .bad p e):e = 50 ∨ e = 51:=by
 unfold eT at h
 split at h
 ·cases h; exact .inl rfl
 ·cases x with
  | bad k e => cases h; rcases hx _ _ rfl with h | h <;> omega
  | ok o k =>
   simp only [resT] at h
   split at h <;> cases h
   exact .inl rfl
def tA (r:An Tm):An Tm:=match r with | .ok t => if rT false t = true /\ 1 + nodesT t <= 401 /\ 1 + depthT t <= 41 then .ok t else .bad 0 3 | x => x
theorem dep_le:∀ t:Tm,depthT t <= nodesT t:=depth_leT
theorem tA_termA {r:An Tm} (h:∀ t,r = .ok t -> nodesT t <= 1000000):tA r = termA r:=by
 cases r with
 | bad p e => rfl
 | ok t =>
  have hn:=h t rfl
  have hd:=dep_le t
  have e:rightT t = rT false t:=by
   unfold rightT
   rw [good_rT,decide_eq_true (show 1 + depthT t <= 9223372036854775807 + 1 by omega),Bool.and_true]
  simp only [tA,termA,e]
  have h3:(rT false t = true /\ 1 + nodesT t <= 401 /\ 1 + depthT t <= 41) ↔ (rT false t = true /\ nodesT t <= 400 /\ depthT t <= 40):=by
   constructor <;> intro ⟨a,b,c⟩ <;> exact ⟨a,by omega,by omega⟩
  by_cases h4:rT false t = true /\ nodesT t <= 400 /\ depthT t <= 40
  ·rw [if_pos (h3.2 h4),if_pos h4]
  ·rw [if_neg (fun hh => h4 (h3.1 hh)),if_neg h4]
theorem rtm_v {W:World} {lo:Nat} {f:Tm} {v:Value} (h:TmV W lo f v) (hN:nodesT f <= 1000000):Calls Tryz.prog 38 #[v] W (RetW W (rT false f)):=by
 obtain ⟨s,rfl,h1,h4⟩:=h
 exact rterm_call W f s (h1.turn fun k hk => ⟨hk.2,rfl⟩) h4 hN
set_option maxRecDepth 100000 in
set_option maxHeartbeats 4000000 in
theorem rterm5_lexbad (w:World) (s:ByteArray) (hs:s.size <= 16384) {ts:List Tok} {p:Nat} {er:Int} (hL:LexL 0 (bys s) ts p er) (he:er ≠ 0):Calls Tryz.prog 15 #[.string s] w (OutT w (.bad p er)):=by
 have hlx:=rlex_call (w.alloc (.cells #[.bool false,.string ⟨#[]⟩,.slice none 0 0] 36)) s hs hL
 have HLX:=hid hlx
 have hz0:=HK.blk_new w (.cells #[.bool false,.string ⟨#[]⟩,.slice none 0 0] 36)
 have HZ0:=hid hz0
 have HE:=hid he
 have e1:(er == 0) = false:=by simpa using he
 have e2:(er != 0) = true:=by simpa using he
 clear hlx hL hz0 he
 go_enter Tryz.func15,Tryz.ntmps15
 go_wp2_with (fail)
 go_at_call 35
 with_reducible refine HLX.out.mono ?_
 rintro E w2 ⟨hB2,h⟩
 rcases h with ⟨h0,_⟩ | ⟨hne,rfl⟩
 ·exact absurd h0 HE.out
 have HB2:=hid ((bl_al9 (W:=w) (.cells #[.bool false,.string ⟨#[]⟩,.slice none 0 0] 36)).trans (hB2.mono (bl_al9 (W:=w) (.cells #[.bool false,.string ⟨#[]⟩,.slice none 0 0] 36)).size))
 have hz:=(hB2.block _ (HK.blk_lt HZ0.out)).trans HZ0.out
 have HZ:=hid hz
 have u0:=HK.blk_cell hz 0
 have u1:=HK.blk_cell hz 1
 have u2:=HK.blk_cell hz 2
 have uf:=fun i => HK.blk_frozen hz i
 clear hB2 hne hz
 go_wp2_with (fail)
 refine bodyPost_ret (results_c1t2 (p:=2) (u:=3) (v:=4) (ty:=36) (by kernel_rfl) _ _ w.heap.size 36 _ (0,0) _ _ _ rfl rfl rfl (pset3 HZ.out _ _ _) Tryz.underlying36 rfl (by kernel_rfl)) rfl ?_
 exact ⟨below3 HB2.out (Nat.le_refl _) _ _ _,_,_,_,_,_,rfl,zero_tm _ _⟩
set_option maxRecDepth 100000 in
set_option maxHeartbeats 8000000 in
theorem rterm5_ok (w:World) (s:ByteArray) (hs:s.size <= 16384) {ts:List Tok} {p n M:Nat} {x:Ot} (hL:LexL 0 (bys s) ts p 0) (hx:run true ts n .term 0 0 = some x) (hM:FstM ts (ts.length - 1) M):Calls Tryz.prog 15 #[.string s] w (OutT w (tA (eT M ts x))):=by
 have hlx:=rlex_call (w.alloc (.cells #[.bool false,.string ⟨#[]⟩,.slice none 0 0] 36)) s hs hL
 have hT:=tsok_of_lex (l:=bys s) hs hL
 have HKD:=hid (lex_kinds hL)
 have hlen:=hT.en.len
 have HLEN:=hid hlen
 have HT:=hid hT
 have HM:=hid hM
 have hin:=run_iz hT.en n _ _ _ _ (Nat.zero_le _) hx
 have HBAD:Hid (∀ k e,x = .bad k e -> e = 50 ∨ e = 51):=hid fun k e h => by rw [h] at hin; exact hin.2.2
 have HND:Hid (∀ ob k,x = .ok ob k -> nodesT (tO ob) <= 900000):=hid fun ob k h => by
  rw [h] at hx hin
  have h1:=run_rd true ts n _ _ _ _ _ hx
  rw [ty_t (rd_ty h1)] at h1
  have h2:=rd_nodes h1
  have h4:=hT.le
  simp only [inO] at hin
  simp only [nodesO,accN] at h2
  omega
 have HRUN:=hid hx
 have HLX:=hid hlx
 have hz0:=HK.blk_new w (.cells #[.bool false,.string ⟨#[]⟩,.slice none 0 0] 36)
 have HZ0:=hid hz0
 clear hlx hL hz0 hT hin hx hM hlen
 go_enter Tryz.func15,Tryz.ntmps15
 go_wp2_with (fail)
 go_at_call 35
 with_reducible refine HLX.out.mono ?_
 rintro E w2 ⟨hB2,h⟩
 rcases h with ⟨_,g,c,rfl,htk,hg,hg2,hnc⟩ | ⟨hne,_⟩
 case inr => exact absurd rfl hne
 have hTR:TkR w2 g ts (ts.length - 1):=⟨htk,hg,HT.out,HKD.out⟩
 have hS:SlT' (ts.length - 1) 0 0 ts.length c:=⟨rfl,by have:=HLEN.out; omega,hnc,Nat.zero_le _⟩
 have hfo:=(doneR_all ts (ts.length - 1) g n).te 0 0 x HRUN.out w2 0 ts.length c hTR hS (Nat.le_refl _)
 simp only [show (((0:Nat)):Int) = 0 from rfl] at hfo
 unfold RetRT at hfo
 have HFO:=hid hfo
 have HTR:=hid hTR
 have HS:=hid hS
 have HB2:=hid ((bl_al9 (W:=w) (.cells #[.bool false,.string ⟨#[]⟩,.slice none 0 0] 36)).trans (hB2.mono (bl_al9 (W:=w) (.cells #[.bool false,.string ⟨#[]⟩,.slice none 0 0] 36)).size))
 have hz:=(hB2.block _ (HK.blk_lt HZ0.out)).trans HZ0.out
 have HZ2:=hid hz
 have h22:=hB2.size
 simp only [World.size_alloc] at h22
 have H22:=hid h22
 obtain ⟨N,hN⟩:∃ N,N = ts.length:=⟨_,rfl⟩
 rw [<- hN] at HFO HS HTR HM ⊢
 clear hfo hTR hS hB2 hz htk hg hg2 hnc hN h22
 go_wp2_with (fail)
 go_at_call 36
 with_reducible refine HFO.out.mono ?_
 rintro _ w3 ⟨hB3,tb,tn,ta,tc,td,o2,n2,c2,e2,rfl,her2,hsl2,hfm2⟩
 subst her2
 have hen:=rended_call (w:=w3.alloc (.cells #[.bool tb,.string tn,.slice ta tc td] 36)) false (HTR.out.up (hB3.alloc hB3.size _)) HS.out hsl2 HBAD.out HM.out
 have HEN:=hid hen
 have HF2:=hid hfm2
 have hk8:=HK.blk_new w3 (.cells #[.bool tb,.string tn,.slice ta tc td] 36)
 have hz:=HK.blk_alloc ((hB3.block _ (HK.blk_lt HZ2.out)).trans HZ2.out) (.cells #[.bool tb,.string tn,.slice ta tc td] 36)
 have hBa:=HB2.out.trans (hB3.mono HB2.out.size)
 have HBW4:=hid (hBa.alloc hBa.size (.cells #[.bool tb,.string tn,.slice ta tc td] 36))
 have h33:=hB3.size
 have H33:=hid h33
 clear hsl2 hfm2 hBa hB3 h33 hen
 go_upto_region 5 with (fail)
 obtain ⟨b8,hb8⟩:∃ b,b = w3.heap.size:=⟨_,rfl⟩
 rw [<- hb8] at hk8 ⊢
 obtain ⟨w4,hw4⟩:∃ x,x = w3.alloc (.cells #[.bool tb,.string tn,.slice ta tc td] 36):=⟨_,rfl⟩
 rw [<- hw4] at hk8 hz HBW4 HEN ⊢
 have HW4:=hid hw4
 have HB8:=hid hb8
 have HZ4:=hid hz
 have HK84:=hid hk8
 clear hw4 hb8
 have y0:=HK.blk_cell hk8 0
 have y1:=HK.blk_cell hk8 1
 have y2:=HK.blk_cell hk8 2
 have u0:=HK.blk_cell hz 0
 have u1:=HK.blk_cell hz 1
 have u2:=HK.blk_cell hz 2
 have uf:=fun i => HK.blk_frozen hz i
 clear hk8 hz
 rw [endX_eT] at HEN
 cases hea:eT M ts x with
 | bad p' e =>
  have he:=eT_bad HBAD.out hea
  have HA:Hid (tA (eT M ts x) = .bad p' e):=hid (by rw [hea]; rfl)
  rw [hea] at HEN
  simp only [anP,anE] at HEN
  have e1:(e == 0) = false:=by rcases he with rfl | rfl <;> rfl
  have e2:(e != 0) = true:=by rcases he with rfl | rfl <;> rfl
  clear he hea
  go_wp2_with (go_at_call 37; ((with_reducible refine HEN.out.mono ?_); rintro _ w9 ⟨h9,rfl⟩; obtain rfl:=h9.symm; clear h9))
  refine bodyPost_ret (results_c1t2 (p:=2) (u:=3) (v:=4) (ty:=36) (by kernel_rfl) _ _ w.heap.size 36 _ (0,0) _ _ _ rfl rfl rfl (pset3 HZ4.out _ _ _) Tryz.underlying36 rfl (by kernel_rfl)) rfl ?_
  rw [HA.out]
  exact ⟨below3 HBW4.out (Nat.le_refl _) _ _ _,_,_,_,_,_,rfl,zero_tm _ _⟩
 | ok f =>
  obtain ⟨ob,k,hxo,hfo⟩:=eT_ok hea
  have HEA:=hid hea
  rw [hea] at HEN
  simp only [anP,anE] at HEN
  have hN:=HND.out ob k hxo
  obtain ⟨hvb,hvn,hvz,hvt⟩:=HF2.out ob k hxo
  rw [<- hfo] at hN hvb hvn hvt
  have hs4:w4.heap.size = w3.heap.size + 1:=by rw [HW4.out]; simp
  have hv4:TmV w4 (w.heap.size + 1) f (.agg #[.bool tb,.string tn,.slice ta tc td]):=⟨⟨ta,tc,td⟩,by rw [hvb,hvn]; rfl,hvt.turn fun j hj => by
   have h1:=hj.1
   have h2:=hj.2
   have h5:=H22.out
   refine ⟨⟨by omega,by omega⟩,?_⟩
   rw [HW4.out,Below.heap_alloc _ _ _ h2],by rw [<- hvn]; exact hvz⟩
  have HV4:=hid hv4
  have HN:=hid hN
  have h40:w.heap.size < w4.heap.size:=HK.blk_lt HZ4.out
  clear hea hxo hfo hN hvb hvn hvz hvt hv4 hs4
  go_upto_region 9 with (go_at_call 37; ((with_reducible refine HEN.out.mono ?_); rintro _ w9 ⟨h9,rfl⟩; obtain rfl:=h9.symm; clear h9))
  have hrw:=HK.blk_alloc (HK.blk_new w4 (.cells #[.bool tb,.string tn,.slice ta tc td] 36)) (.cells #[.int .u8 0,.string ⟨#[]⟩,.slice (some ⟨w4.heap.size,0,none⟩) 1 1,.slice none 0 0] 28)
  have hk11:=HK.blk_new (w4.alloc (.cells #[.bool tb,.string tn,.slice ta tc td] 36)) (.cells #[.int .u8 0,.string ⟨#[]⟩,.slice (some ⟨w4.heap.size,0,none⟩) 1 1,.slice none 0 0] 28)
  have hk8:=HK.blk_alloc (HK.blk_alloc HK84.out (.cells #[.bool tb,.string tn,.slice ta tc td] 36)) (.cells #[.int .u8 0,.string ⟨#[]⟩,.slice (some ⟨w4.heap.size,0,none⟩) 1 1,.slice none 0 0] 28)
  have hz:=HK.blk_alloc (HK.blk_alloc HZ4.out (.cells #[.bool tb,.string tn,.slice ta tc td] 36)) (.cells #[.int .u8 0,.string ⟨#[]⟩,.slice (some ⟨w4.heap.size,0,none⟩) 1 1,.slice none 0 0] 28)
  have hBW:=(HBW4.out.alloc HBW4.out.size (.cells #[.bool tb,.string tn,.slice ta tc td] 36)).alloc (by have:=HBW4.out.size; simp; omega) (.cells #[.int .u8 0,.string ⟨#[]⟩,.slice (some ⟨w4.heap.size,0,none⟩) 1 1,.slice none 0 0] 28)
  have hv:=HV4.out.turn (lo':=w.heap.size + 1) (((⟨Nat.le_refl _,Nat.le_refl _,fun _ _ _ => rfl⟩:Up (w.heap.size + 1) (w.heap.size + 1) w4 w4).alloc (.cells #[.bool tb,.string tn,.slice ta tc td] 36)).alloc (.cells #[.int .u8 0,.string ⟨#[]⟩,.slice (some ⟨w4.heap.size,0,none⟩) 1 1,.slice none 0 0] 28))
  simp only [World.size_alloc] at hk11
  obtain ⟨b11,hb11⟩:∃ b,b = w4.heap.size + 1:=⟨_,rfl⟩
  obtain ⟨b10,hb10⟩:∃ b,b = w4.heap.size:=⟨_,rfl⟩
  rw [<- hb11] at hk11 ⊢
  rw [<- hb10] at hrw hk11 hk8 hz hBW hv ⊢
  obtain ⟨w6,hw6⟩:∃ x,x = (w4.alloc (.cells #[.bool tb,.string tn,.slice ta tc td] 36)).alloc (.cells #[.int .u8 0,.string ⟨#[]⟩,.slice (some ⟨b10,0,none⟩) 1 1,.slice none 0 0] 28):=⟨_,rfl⟩
  rw [<- hw6] at hrw hk11 hk8 hz hBW hv ⊢
  have hrow:=one_v hv hrw
  have HROW6:=hid hrow
  have HZ6:=hid hz
  have HK86:=hid hk8
  have HK116:=hid hk11
  have HBW6:=hid hBW
  have HV6:=hid hv
  clear y0 y1 y2 u0 u1 u2 uf hw6 hb10 hb11 hrw hrow hBW hv h40
  have g0:=HK.blk_cell hk11 0
  have g1:=HK.blk_cell hk11 1
  have g2:=HK.blk_cell hk11 2
  have g3:=HK.blk_cell hk11 3
  have y0:=HK.blk_cell hk8 0
  have y1:=HK.blk_cell hk8 1
  have y2:=HK.blk_cell hk8 2
  have u0:=HK.blk_cell hz 0
  have u1:=HK.blk_cell hz 1
  have u2:=HK.blk_cell hz 2
  have uf:=fun i => HK.blk_frozen hz i
  clear hk11 hk8 hz
  have hj:=rtm_v HV6.out (by have:=HN.out; omega)
  have HJ:=hid hj
  clear hj
  go_wp2_with (fail)
  clear g0 g1 g2 g3 y0 y1 y2 u0 u1 u2 uf
  go_at_call 38
  with_reducible refine (HJ.out).mono ?_
  rintro _ w7 ⟨rfl,hB7⟩
  have hz:=(hB7.block _ (HK.blk_lt HZ6.out)).trans HZ6.out
  have hk8:=(hB7.block _ (HK.blk_lt HK86.out)).trans HK86.out
  have hk11:=(hB7.block _ (HK.blk_lt HK116.out)).trans HK116.out
  have hrow:=HROW6.out.turn (sn_up hB7)
  have hv:=HV6.out.turn (lo':=w.heap.size + 1) ⟨Nat.le_refl _,hB7.size,fun k _ hk => hB7.block k hk⟩
  have HBW7:=hid (HBW6.out.trans (hB7.mono HBW6.out.size))
  have HZ7:=hid hz
  have HK87:=hid hk8
  have HK117:=hid hk11
  have HROW7:=hid hrow
  have HV7:=hid hv
  clear hrow hv hB7
  have g0:=HK.blk_cell hk11 0
  have g1:=HK.blk_cell hk11 1
  have g2:=HK.blk_cell hk11 2
  have g3:=HK.blk_cell hk11 3
  have y0:=HK.blk_cell hk8 0
  have y1:=HK.blk_cell hk8 1
  have y2:=HK.blk_cell hk8 2
  have u0:=HK.blk_cell hz 0
  have u1:=HK.blk_cell hz 1
  have u2:=HK.blk_cell hz 2
  have uf:=fun i => HK.blk_frozen hz i
  clear hz hk8 hk11
  by_cases hr:rT false f = true
  case neg =>
   have HA:Hid (tA (eT M ts x) = .bad 0 3):=hid (by rw [HEA.out]; simp only [tA]; rw [if_neg (fun h => hr h.1)])
   simp only [show rT false f = false by simpa using hr]
   clear hr
   go_wp2_with (fail)
   refine bodyPost_ret (results_c1t2 (p:=2) (u:=3) (v:=4) (ty:=36) (by kernel_rfl) _ _ w.heap.size 36 _ (0,0) _ _ _ rfl rfl rfl (pset3 HZ7.out _ _ _) Tryz.underlying36 rfl (by kernel_rfl)) rfl ?_
   rw [HA.out]
   exact ⟨below3 HBW7.out (Nat.le_refl _) _ _ _,_,_,_,_,_,rfl,zero_tm _ _⟩
  simp only [hr]
  have HR:=hid hr
  clear hr
  have hnd:Calls Tryz.prog 39 #[.agg #[.int .u8 0,.string ⟨#[]⟩,.slice (some ⟨b10,0,none⟩) 1 1,.slice none 0 0]] w7 (RetNn w7 (1 + nodesT f)):=by
   have h:=rnodes_t (.mk 0 ⟨#[]⟩ [f] []) w7 ⟨some ⟨b10,0,none⟩,1,1⟩ ⟨none,0,0⟩ HROW7.out (.nil _ _) (by have:=HN.out; simp only [nodesF,nodesTs,nodesL]; omega)
   simp only [nodesF,nodesTs,nodesL,Nat.add_zero] at h
   exact h
  have HN7:=hid hnd
  obtain ⟨T,hTT⟩:∃ T,T = 1 + nodesT f:=⟨_,rfl⟩
  rw [<- hTT] at HN7
  have HTT:=hid hTT
  clear hnd hTT
  go_wp2_with (fail)
  clear g0 g1 g2 g3 y0 y1 y2 u0 u1 u2 uf
  go_at_call 39
  with_reducible refine (HN7.out).mono ?_
  rintro _ w8 ⟨rfl,hB8⟩
  have hz:=(hB8.block _ (HK.blk_lt HZ7.out)).trans HZ7.out
  have hk8:=(hB8.block _ (HK.blk_lt HK87.out)).trans HK87.out
  have hk11:=(hB8.block _ (HK.blk_lt HK117.out)).trans HK117.out
  have hrow:=HROW7.out.turn (sn_up hB8)
  have hv:=HV7.out.turn (lo':=w.heap.size + 1) ⟨Nat.le_refl _,hB8.size,fun k _ hk => hB8.block k hk⟩
  have HBW8:=hid (HBW7.out.trans (hB8.mono HBW7.out.size))
  have HZ8:=hid hz
  have HK88:=hid hk8
  have HK118:=hid hk11
  have HROW8:=hid hrow
  have HV8:=hid hv
  clear hrow hv hB8
  have g0:=HK.blk_cell hk11 0
  have g1:=HK.blk_cell hk11 1
  have g2:=HK.blk_cell hk11 2
  have g3:=HK.blk_cell hk11 3
  have y0:=HK.blk_cell hk8 0
  have y1:=HK.blk_cell hk8 1
  have y2:=HK.blk_cell hk8 2
  have u0:=HK.blk_cell hz 0
  have u1:=HK.blk_cell hz 1
  have u2:=HK.blk_cell hz 2
  have uf:=fun i => HK.blk_frozen hz i
  clear hz hk8 hk11
  by_cases hr:T <= 401
  case neg =>
   have HA:Hid (tA (eT M ts x) = .bad 0 3):=hid (by rw [HEA.out]; simp only [tA]; rw [if_neg (fun h => hr (by rw [HTT.out]; exact h.2.1))])
   have hri:(401:Int) < (T:Int):=by omega
   clear hr
   go_wp2_with (fail)
   refine bodyPost_ret (results_c1t2 (p:=2) (u:=3) (v:=4) (ty:=36) (by kernel_rfl) _ _ w.heap.size 36 _ (0,0) _ _ _ rfl rfl rfl (pset3 HZ8.out _ _ _) Tryz.underlying36 rfl (by kernel_rfl)) rfl ?_
   rw [HA.out]
   exact ⟨below3 HBW8.out (Nat.le_refl _) _ _ _,_,_,_,_,_,rfl,zero_tm _ _⟩
  have hri:¬ (401:Int) < (T:Int):=by omega
  have HR2:=hid hr
  clear hr
  have hnd:Calls Tryz.prog 40 #[.agg #[.int .u8 0,.string ⟨#[]⟩,.slice (some ⟨b10,0,none⟩) 1 1,.slice none 0 0]] w8 (RetNn w8 (1 + depthT f)):=by
   have h:=rdepth_t (.mk 0 ⟨#[]⟩ [f] []) w8 ⟨some ⟨b10,0,none⟩,1,1⟩ ⟨none,0,0⟩ HROW8.out (.nil _ _) (by have:=HN.out; simp only [nodesF,nodesTs,nodesL]; omega)
   simp only [depthF,depthTs,depthL,Nat.max_zero] at h
   exact h
  have HN8:=hid hnd
  obtain ⟨D,hDD⟩:∃ D,D = 1 + depthT f:=⟨_,rfl⟩
  rw [<- hDD] at HN8
  have HDD:=hid hDD
  clear hnd hDD
  go_wp2_with (fail)
  clear g0 g1 g2 g3 y0 y1 y2 u0 u1 u2 uf
  go_at_call 40
  with_reducible refine (HN8.out).mono ?_
  rintro _ w9 ⟨rfl,hB9⟩
  have hz:=(hB9.block _ (HK.blk_lt HZ8.out)).trans HZ8.out
  have hk8:=(hB9.block _ (HK.blk_lt HK88.out)).trans HK88.out
  have hk11:=(hB9.block _ (HK.blk_lt HK118.out)).trans HK118.out
  have hrow:=HROW8.out.turn (sn_up hB9)
  have hv:=HV8.out.turn (lo':=w.heap.size + 1) ⟨Nat.le_refl _,hB9.size,fun k _ hk => hB9.block k hk⟩
  have HBW9:=hid (HBW8.out.trans (hB9.mono HBW8.out.size))
  have HZ9:=hid hz
  have HK89:=hid hk8
  have HK119:=hid hk11
  have HROW9:=hid hrow
  have HV9:=hid hv
  clear hrow hv hB9
  have g0:=HK.blk_cell hk11 0
  have g1:=HK.blk_cell hk11 1
  have g2:=HK.blk_cell hk11 2
  have g3:=HK.blk_cell hk11 3
  have y0:=HK.blk_cell hk8 0
  have y1:=HK.blk_cell hk8 1
  have y2:=HK.blk_cell hk8 2
  have u0:=HK.blk_cell hz 0
  have u1:=HK.blk_cell hz 1
  have u2:=HK.blk_cell hz 2
  have uf:=fun i => HK.blk_frozen hz i
  clear hz hk8 hk11
  by_cases hr:D <= 41
  case neg =>
   have HA:Hid (tA (eT M ts x) = .bad 0 3):=hid (by rw [HEA.out]; simp only [tA]; rw [if_neg (fun h => hr (by rw [HDD.out]; exact h.2.2))])
   have hdi:(41:Int) < (D:Int):=by omega
   clear hr
   go_wp2_with (fail)
   refine bodyPost_ret (results_c1t2 (p:=2) (u:=3) (v:=4) (ty:=36) (by kernel_rfl) _ _ w.heap.size 36 _ (0,0) _ _ _ rfl rfl rfl (pset3 HZ9.out _ _ _) Tryz.underlying36 rfl (by kernel_rfl)) rfl ?_
   rw [HA.out]
   exact ⟨below3 HBW9.out (Nat.le_refl _) _ _ _,_,_,_,_,_,rfl,zero_tm _ _⟩
  have hdi:¬ (41:Int) < (D:Int):=by omega
  have HA:Hid (tA (eT M ts x) = .ok f):=hid (by rw [HEA.out]; simp only [tA]; rw [if_pos ⟨HR.out,by rw [<- HTT.out]; exact HR2.out,by rw [<- HDD.out]; exact hr⟩])
  clear hr
  go_wp2_with (fail)
  refine bodyPost_ret (results_c1t2 (p:=2) (u:=3) (v:=4) (ty:=36) (by kernel_rfl) _ _ w.heap.size 36 _ (0,0) _ _ _ rfl rfl rfl (pset3 HZ9.out _ _ _) Tryz.underlying36 rfl (by kernel_rfl)) rfl ?_
  rw [HA.out]
  refine ⟨below3 HBW9.out (Nat.le_refl _) _ _ _,_,_,_,_,_,rfl,?_⟩
  obtain ⟨sv,he,h1,h4⟩:=HV9.out
  exact ⟨sv,he,h1.turn fun j hj => ⟨⟨by have:=hj.1; omega,by rw [size3]; exact hj.2⟩,heap3 (by have:=hj.1; omega) _ _ _⟩,h4⟩
theorem rterm5_call (w:World) (s:ByteArray) (hs:s.size <= 16384) {r:An Tm} (h:RdT false (bys s) r):Calls Tryz.prog 15 #[.string s] w (OutT w (termA r)):=by
 have hnn:∀ t,r = .ok t -> nodesT t <= 1000000:=fun t ht => by
  obtain ⟨_,_,_,_,_,_,_,hN⟩:=rdT_ok (l:=bys s) hs h ht
  omega
 rw [<- tA_termA hnn]
 cases h with
 | lexbad hL he => exact rterm5_lexbad w s hs hL he
 | @read ts p n x hL hx =>
  have hT:=tsok_of_lex (l:=bys s) hs hL
  obtain ⟨M,hM⟩:=fst_ex ts (ts.length - 1)
  obtain ⟨y,hy⟩:=run_total (metas:=true) hT.en (10 * (ts.length - 1 - 0) + rank .term + 1) .term 0 0 (Nat.zero_le _) (by simp) (Nat.lt_succ_self _)
  obtain ⟨h1,h2⟩:=cut_of hT (lex_kinds hL) hM hy hx
  have e:resT ts x = eT M ts y:=by
   unfold eT
   by_cases h:M < plO y
   ·rw [if_pos h,h1 h]; rfl
   ·rw [if_neg h,h2 h]
  rw [e]
  exact rterm5_ok w s hs hL hy hM
end Go.Proofs.YtdobflpbkfkmgaaGreatDoor
