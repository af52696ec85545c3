import Derived.Test.YtdobflpbkfkmgaaGreatDoorR6a
import Derived.Test.YtdobflpbkfkmgaaGreatDoorR2d
namespace Go.Proofs.YtdobflpbkfkmgaaGreatDoor
open Go.RowKit Go.HK Go.FR Lib
set_option linter.unusedVariables false
set_option linter.unusedSimpArgs false
set_option linter.unusedSectionVars false
def eA (m:Bool) (M:Nat) (ts:List Tok) (x:Ot):An Fm:=if m = false /\ M < plO x then .bad (tkA ts M).p 50 else resF ts x
theorem endX_eA (m:Bool) (M:Nat) (ts:List Tok) (x:Ot):endX m M ts x = ((anP (eA m M ts x):Int),anE (eA m M ts x)):=by
 unfold endX eA
 split
 ·rfl
 ·cases x with
  | bad k e => rfl
  | ok o k =>
   simp only [resF]
   split <;> rfl
theorem eA_ok {m:Bool} {M:Nat} {ts:List Tok} {x:Ot} {f:Fm} (h:eA m M ts x = .ok f):∃ ob k,x = .ok ob k /\ f = fmO ob:=by
 unfold eA at h
 split at h
 ·cases h
 ·cases x with
  | bad k e => cases h
  | ok o k =>
   simp only [resF] at h
   split at h
   ·cases h; exact ⟨o,k,rfl,rfl⟩
   ·cases h
theorem eA_bad {m:Bool} {M:Nat} {ts:List Tok} {x:Ot} {p:Nat} {e:Int} (hx:∀ k e,x = .bad k e -> e = 50 ∨ e = 51) (h:eA m M ts x = .bad p e):e = 50 ∨ e = 51:=by
 unfold eA at h
 split at h
 ·cases h; exact .inl rfl
 ·cases x with
  | bad k e => cases h; rcases hx _ _ rfl with h | h <;> omega
  | ok o k =>
   simp only [resF] at h
   split at h <;> cases h
   exact .inl rfl
set_option maxRecDepth 100000 in
set_option maxHeartbeats 4000000 in
theorem rwhole_lexbad (w:World) (s:ByteArray) (m:Bool) (hs:s.size <= 16384) {ts:List Tok} {p:Nat} {er:Int} (hL:LexL 0 (bys s) ts p er) (he:er ≠ 0):Calls Tryz.prog 28 #[.string s,.bool m] w (OutF w (.bad p er)):=by
 have hlx:=rlex_call (w.alloc (.cells #[.int .u8 0,.string ⟨#[]⟩,.slice none 0 0,.slice none 0 0] 28)) s hs hL
 have HLX:=hid hlx
 have hz0:=HK.blk_new w (.cells #[.int .u8 0,.string ⟨#[]⟩,.slice none 0 0,.slice none 0 0] 28)
 have HZ0:=hid hz0
 have HE:=hid he
 have e1:(er == 0) = false:=by simpa using he
 have e2:(er != 0) = true:=by simpa using he
 clear hlx hL hz0 he
 go_enter Tryz.func28,Tryz.ntmps28
 go_wp2_with (fail)
 go_at_call 35
 with_reducible refine HLX.out.mono ?_
 rintro E w2 ⟨hB2,h⟩
 rcases h with ⟨h0,_⟩ | ⟨hne,rfl⟩
 ·exact absurd h0 HE.out
 have HB2:=hid ((bl_al9 (W:=w) (.cells #[.int .u8 0,.string ⟨#[]⟩,.slice none 0 0,.slice none 0 0] 28)).trans (hB2.mono (bl_al9 (W:=w) (.cells #[.int .u8 0,.string ⟨#[]⟩,.slice none 0 0,.slice none 0 0] 28)).size))
 have hz:=(hB2.block _ (HK.blk_lt HZ0.out)).trans HZ0.out
 have HZ:=hid hz
 have u0:=HK.blk_cell hz 0
 have u1:=HK.blk_cell hz 1
 have u2:=HK.blk_cell hz 2
 have u3:=HK.blk_cell hz 3
 have uf:=fun i => HK.blk_frozen hz i
 clear hB2 hne hz
 go_wp2_with (fail)
 refine bodyPost_ret (results_c1t2 (p:=4) (u:=5) (v:=6) (ty:=28) (by kernel_rfl) _ _ w.heap.size 28 _ (0,0) _ _ _ rfl rfl rfl (pset4 HZ.out _ _ _ _) Tryz.underlying28 rfl (by kernel_rfl)) rfl ?_
 exact ⟨below4 HB2.out (Nat.le_refl _) _ _ _ _,_,_,_,_,_,_,_,_,rfl,zero_fm _ _⟩
theorem rsch_v {W:World} {lo:Nat} {f:Fm} {v:Value} (h:FmV W lo f v) (hN:nodesF f <= 1000000):Calls Tryz.prog 52 #[v] W (RetW W (schF f)):=by
 obtain ⟨a,s,rfl,h1,h2,h3,h4⟩:=h
 exact rschema_call W f a s (h1.turn fun k hk => ⟨hk.2,rfl⟩) (h2.turn fun k hk => ⟨hk.2,rfl⟩) h4 hN
set_option maxRecDepth 100000 in
set_option maxHeartbeats 8000000 in
theorem rwhole_ok (w:World) (s:ByteArray) (m:Bool) (hs:s.size <= 16384) {ts:List Tok} {p n M:Nat} {x:Ot} (hL:LexL 0 (bys s) ts p 0) (hx:run true ts n (.bin 0) 0 0 = some x) (hM:FstM ts (ts.length - 1) M):Calls Tryz.prog 28 #[.string s,.bool m] w (OutF w (schA (eA m M ts x))):=by
 have hlx:=rlex_call (w.alloc (.cells #[.int .u8 0,.string ⟨#[]⟩,.slice none 0 0,.slice none 0 0] 28)) s hs hL
 have hT:=tsok_of_lex (l:=bys s) hs hL
 have HKD:=hid (lex_kinds hL)
 have hlen:=hT.en.len
 have HLEN:=hid hlen
 have HT:=hid hT
 have HM:=hid hM
 have hin:=run_iz hT.en n _ _ _ _ (Nat.zero_le _) hx
 have HBAD:Hid (∀ k e,x = .bad k e -> e = 50 ∨ e = 51):=hid fun k e h => by rw [h] at hin; exact hin.2.2
 have HND:Hid (∀ ob k,x = .ok ob k -> nodesF (fmO ob) <= 1000000):=hid fun ob k h => by
  rw [h] at hx hin
  have h1:=run_rd true ts n _ _ _ _ _ hx
  rw [ty_fm (rd_ty h1)] at h1
  have h2:=rd_nodes h1
  have h4:=hT.le
  simp only [inO] at hin
  simp only [nodesO,accN] at h2
  omega
 have HRUN:=hid hx
 have HLX:=hid hlx
 have hz0:=HK.blk_new w (.cells #[.int .u8 0,.string ⟨#[]⟩,.slice none 0 0,.slice none 0 0] 28)
 have HZ0:=hid hz0
 clear hlx hL hz0 hT hin hx hM hlen
 go_enter Tryz.func28,Tryz.ntmps28
 go_wp2_with (fail)
 go_at_call 35
 with_reducible refine HLX.out.mono ?_
 rintro E w2 ⟨hB2,h⟩
 rcases h with ⟨_,g,c,rfl,htk,hg,hg2,hnc⟩ | ⟨hne,_⟩
 case inr => exact absurd rfl hne
 have hTR:TkR w2 g ts (ts.length - 1):=⟨htk,hg,HT.out,HKD.out⟩
 have hS:SlT' (ts.length - 1) 0 0 ts.length c:=⟨rfl,by have:=HLEN.out; omega,hnc,Nat.zero_le _⟩
 have hfo:=(doneR_all ts (ts.length - 1) g n).f0 0 0 x HRUN.out w2 0 ts.length c hTR hS (Nat.le_refl _)
 simp only [show (((0:Nat)):Int) = 0 from rfl] at hfo
 unfold RetRF at hfo
 have HFO:=hid hfo
 have HTR:=hid hTR
 have HS:=hid hS
 have HB2:=hid ((bl_al9 (W:=w) (.cells #[.int .u8 0,.string ⟨#[]⟩,.slice none 0 0,.slice none 0 0] 28)).trans (hB2.mono (bl_al9 (W:=w) (.cells #[.int .u8 0,.string ⟨#[]⟩,.slice none 0 0,.slice none 0 0] 28)).size))
 have hz:=(hB2.block _ (HK.blk_lt HZ0.out)).trans HZ0.out
 have HZ2:=hid hz
 have h22:=hB2.size
 simp only [World.size_alloc] at h22
 have H22:=hid h22
 obtain ⟨N,hN⟩:∃ N,N = ts.length:=⟨_,rfl⟩
 rw [<- hN] at HFO HS HTR HM ⊢
 clear hfo hTR hS hB2 hz htk hg hg2 hnc hN h22
 go_wp2_with (fail)
 go_at_call 43
 with_reducible refine HFO.out.mono ?_
 rintro _ w3 ⟨hB3,ro,rn,ra,rb,rc,rd,re,rf,o2,n2,c2,e2,rfl,her2,hsl2,hfm2⟩
 subst her2
 have hen:=rended_call (w:=w3.alloc (.cells #[.int .u8 ro,.string rn,.slice ra rb rc,.slice rd re rf] 28)) m (HTR.out.up (hB3.alloc hB3.size _)) HS.out hsl2 HBAD.out HM.out
 have HEN:=hid hen
 have HF2:=hid hfm2
 have hk7:=HK.blk_new w3 (.cells #[.int .u8 ro,.string rn,.slice ra rb rc,.slice rd re rf] 28)
 have hz:=HK.blk_alloc ((hB3.block _ (HK.blk_lt HZ2.out)).trans HZ2.out) (.cells #[.int .u8 ro,.string rn,.slice ra rb rc,.slice rd re rf] 28)
 have hBa:=HB2.out.trans (hB3.mono HB2.out.size)
 have HBW:=hid (hBa.alloc hBa.size (.cells #[.int .u8 ro,.string rn,.slice ra rb rc,.slice rd re rf] 28))
 have h33:=hB3.size
 have H33:=hid h33
 clear hsl2 hfm2 hBa hB3 h33 hen
 go_upto_region 5 with (fail)
 obtain ⟨b7,hb7⟩:∃ b,b = w3.heap.size:=⟨_,rfl⟩
 rw [<- hb7] at hk7 ⊢
 obtain ⟨w4,hw4⟩:∃ x,x = w3.alloc (.cells #[.int .u8 ro,.string rn,.slice ra rb rc,.slice rd re rf] 28):=⟨_,rfl⟩
 rw [<- hw4] at hk7 hz HBW HEN ⊢
 have HW4:=hid hw4
 have HB7:=hid hb7
 have HZ:=hid hz
 clear hw4 hb7
 have y0:=HK.blk_cell hk7 0
 have y1:=HK.blk_cell hk7 1
 have y2:=HK.blk_cell hk7 2
 have y3:=HK.blk_cell hk7 3
 have u0:=HK.blk_cell hz 0
 have u1:=HK.blk_cell hz 1
 have u2:=HK.blk_cell hz 2
 have u3:=HK.blk_cell hz 3
 have uf:=fun i => HK.blk_frozen hz i
 clear hk7 hz
 rw [endX_eA] at HEN
 cases hea:eA m M ts x with
 | bad p' e =>
  have he:=eA_bad HBAD.out hea
  rw [hea] at HEN
  simp only [anP,anE] at HEN
  have e1:(e == 0) = false:=by rcases he with rfl | rfl <;> rfl
  have e2:(e != 0) = true:=by rcases he with rfl | rfl <;> rfl
  have HA:Hid (schA (eA m M ts x) = .bad p' e):=hid (by rw [hea]; rfl)
  clear he hea
  go_wp2_with (go_at_call 37; ((with_reducible refine HEN.out.mono ?_); rintro _ w9 ⟨h9,rfl⟩; obtain rfl:=h9.symm; clear h9))
  refine bodyPost_ret (results_c1t2 (p:=4) (u:=5) (v:=6) (ty:=28) (by kernel_rfl) _ _ w.heap.size 28 _ (0,0) _ _ _ rfl rfl rfl (pset4 HZ.out _ _ _ _) Tryz.underlying28 rfl (by kernel_rfl)) rfl ?_
  rw [HA.out]
  exact ⟨below4 HBW.out (Nat.le_refl _) _ _ _ _,_,_,_,_,_,_,_,_,rfl,zero_fm _ _⟩
 | ok f =>
  obtain ⟨ob,k,hxo,hfo⟩:=eA_ok hea
  rw [hea] at HEN
  simp only [anP,anE] at HEN
  have hq:=(HF2.out ob k hxo).turn (T:=RS w b7 w4) (W':=w4) fun j hj => by
   have h1:=hj.1
   have h2:=hj.2
   have h7:=HB7.out
   have h5:=H22.out
   have h3:w4.heap.size = w3.heap.size + 1:=by rw [HW4.out]; simp
   refine ⟨⟨by omega,by omega,by omega⟩,?_⟩
   rw [HW4.out,Below.heap_alloc _ _ _ h2]
  have hN:=HND.out ob k hxo
  rw [<- hfo] at hq hN
  have HQ:=hid hq
  have hsc:=rsch_v (W:=w4) (lo:=w.heap.size) (f:=f) (v:=.agg #[.int .u8 ro,.string rn,.slice ra rb rc,.slice rd re rf]) (hq.turn fun j hj => ⟨⟨by have:=hj.1; omega,hj.2.1⟩,rfl⟩) hN
  have HSC:=hid hsc
  have HEA:=hid hea
  clear hea hxo hfo hq hN hsc
  go_wp2_with (go_at_call 37; ((with_reducible refine HEN.out.mono ?_); rintro _ w9 ⟨h9,rfl⟩; obtain rfl:=h9.symm; clear h9))
  go_at_call 52
  with_reducible refine HSC.out.mono ?_
  rintro _ w5 ⟨rfl,hB5⟩
  have hz5:=(hB5.block _ (HK.blk_lt HZ.out)).trans HZ.out
  have HZ5:=hid hz5
  have HBW5:=hid (HBW.out.trans (hB5.mono HBW.out.size))
  have hy:=fun (i:Nat) (hi:b7 < w4.heap.size) => World.cell?_of_block (a:=⟨b7,i,none⟩) (hB5.block b7 hi)
  have hb7:b7 < w4.heap.size:=by rw [HW4.out,HB7.out]; simp
  have q0:=(hy 0 hb7).trans y0
  have q1:=(hy 1 hb7).trans y1
  have q2:=(hy 2 hb7).trans y2
  have q3:=(hy 3 hb7).trans y3
  have HB5:=hid hB5
  clear y0 y1 y2 y3 u0 u1 u2 u3 uf hy hb7 hB5
  have u0:=HK.blk_cell hz5 0
  have u1:=HK.blk_cell hz5 1
  have u2:=HK.blk_cell hz5 2
  have u3:=HK.blk_cell hz5 3
  have uf:=fun i => HK.blk_frozen hz5 i
  clear hz5
  by_cases hf:schF f = true
  ·have HA:Hid (schA (eA m M ts x) = .ok f):=hid (by rw [HEA.out]; simp only [schA,if_pos hf])
   simp only [hf]
   clear hf
   go_wp2_with (fail)
   refine bodyPost_ret (results_c1t2 (p:=4) (u:=5) (v:=6) (ty:=28) (by kernel_rfl) _ _ w.heap.size 28 _ (0,0) _ _ _ rfl rfl rfl (pset4 HZ5.out _ _ _ _) Tryz.underlying28 rfl (by kernel_rfl)) rfl ?_
   rw [HA.out]
   refine ⟨below4 HBW5.out (Nat.le_refl _) _ _ _ _,_,_,_,_,_,_,_,_,rfl,?_⟩
   have h5:=(HQ.out.turn (T:=RS w b7 w5) (W':=w5) fun j hj => ⟨⟨hj.1,Nat.lt_of_lt_of_le hj.2.1 HB5.out.size,hj.2.2⟩,HB5.out.block j hj.2.1⟩)
   exact (fin_box h5 (.int .u8 ro) (.string rn) (.slice ra rb rc) (.slice rd re rf)).turn fun j hj => ⟨⟨Nat.le_of_lt hj.1,hj.2⟩,rfl⟩
  ·have HA:Hid (schA (eA m M ts x) = .bad 0 3):=hid (by rw [HEA.out]; simp only [schA,if_neg hf])
   simp only [show schF f = false by simpa using hf]
   clear hf
   go_wp2_with (fail)
   refine bodyPost_ret (results_c1t2 (p:=4) (u:=5) (v:=6) (ty:=28) (by kernel_rfl) _ _ w.heap.size 28 _ (0,0) _ _ _ rfl rfl rfl (pset4 HZ5.out _ _ _ _) Tryz.underlying28 rfl (by kernel_rfl)) rfl ?_
   rw [HA.out]
   exact ⟨below4 HBW5.out (Nat.le_refl _) _ _ _ _,_,_,_,_,_,_,_,_,rfl,zero_fm _ _⟩
theorem meta_63 {s:ByteArray} (h:metaB s = true):∃ r,bys s = 63 :: r:=by
 unfold metaB at h
 have h1:prefB ⟨#[63]⟩ s = true:=by
  unfold fmB tmB at h
  simp only [Bool.or_eq_true,Bool.and_eq_true] at h
  rcases h with h | h
  ·exact h.1.2
  ·exact h.1.2
 unfold prefB at h1
 simp only [Bool.and_eq_true,decide_eq_true_iff] at h1
 have h2:=h1.2
 rw [bys_extract] at h2
 have h3:((bys s).drop 0).take 1 = [63]:=h2
 rw [List.drop_zero] at h3
 cases e:bys s with
 | nil => rw [e] at h3; cases h3
 | cons c r =>
  rw [e] at h3
  simp only [List.take_succ_cons,List.take_zero,List.cons.injEq] at h3
  exact ⟨r,by rw [h3.1]⟩
theorem mta_of {ts:List Tok} {z M:Nat} (hT:TsOk ts z) (hK:∀ t ∈ ts,KindOk t) (hM:FstM ts z M) (h:M <= z):Mta M ts:=by
 refine ⟨hM.no,hM.at_ h,?_⟩
 have hg:=hT.get h
 have h2:=hM.at_ h
 rcases hK _ (List.mem_of_getElem? hg) with h | h | h | h | h
 ·omega
 ·omega
 ·have h3:=h.2
  exact meta_63 h3
 ·omega
 ·omega
theorem no_mta {ts:List Tok} {z M:Nat} (hT:TsOk ts z) (hM:FstM ts z M) (h:¬ M <= z):∀ k,(tkA ts k).k ≠ 2:=fun k => by
 rcases Nat.lt_or_ge k M with h1 | h1
 ·exact hM.no k h1
 ·have hl:ts.length <= k:=by rw [hT.en.len]; omega
  unfold tkA
  rw [List.getD_eq_getElem?_getD,List.getElem?_eq_none hl]
  decide
theorem cut_of {ts:List Tok} {z M n n':Nat} {gl:Gl} {x x':Ot} (hT:TsOk ts z) (hK:∀ t ∈ ts,KindOk t) (hM:FstM ts z M) (hx:run true ts n gl 0 0 = some x) (hx':run false ts n' gl 0 0 = some x'):(M < plO x -> x' = .bad M 50) /\ (¬ M < plO x -> x' = x):=by
 have hin:=run_iz hT.en n _ _ _ _ (Nat.zero_le _) hx
 have hpl:plO x <= z:=by cases x <;> (simp only [inO] at hin; simp only [plO]; omega)
 by_cases h:M <= z
 ·have h1:=run_mta (mta_of hT hK hM h) n gl 0 0 x (Nat.zero_le _) hx
  have h2:=run_det false ts hx' h1
  subst h2
  exact ⟨fun hh => cut_gt hh,fun hh => if_pos (by omega)⟩
 ·have h1:=run_nometa (m:=true) (m':=false) (no_mta hT hM h) n
  rw [h1] at hx
  exact ⟨fun hh => by omega,fun _ => run_det false ts hx' hx⟩
theorem eA_false {ts:List Tok} {z M n n':Nat} {x x':Ot} (hT:TsOk ts z) (hK:∀ t ∈ ts,KindOk t) (hM:FstM ts z M) (hx:run true ts n (.bin 0) 0 0 = some x) (hx':run false ts n' (.bin 0) 0 0 = some x'):eA false M ts x = resF ts x':=by
 obtain ⟨h1,h2⟩:=cut_of hT hK hM hx hx'
 unfold eA
 by_cases h:M < plO x
 ·rw [if_pos ⟨rfl,h⟩,h1 h]; rfl
 ·rw [if_neg (fun hh => h hh.2),h2 h]
theorem sch_formA {ts:List Tok} {n:Nat} {x:Ot} (hx:run false ts n (.bin 0) 0 0 = some x):schA (resF ts x) = formA (resF ts x):=by
 cases x with
 | bad k e => rfl
 | ok o k =>
  have h1:=right_sch (run_rd false ts n _ _ _ _ _ hx)
  simp only [resF]
  split
  ·simp only [schA,formA,h1]
  ·rfl
theorem rwhole_form (w:World) (s:ByteArray) (hs:s.size <= 16384) {r:An Fm} (h:RdF false (bys s) r):Calls Tryz.prog 28 #[.string s,.bool false] w (OutF w (formA r)):=by
 cases h with
 | lexbad hL he => exact rwhole_lexbad w s false hs hL he
 | @read ts p n x hL hx =>
  have hT:=tsok_of_lex (l:=bys s) hs hL
  obtain ⟨M,hM⟩:=fst_ex ts (ts.length - 1)
  obtain ⟨y,hy⟩:=run_total (metas:=true) hT.en (10 * (ts.length - 1 - 0) + rank (.bin 0) + 1) (.bin 0) 0 0 (Nat.zero_le _) (by simp) (Nat.lt_succ_self _)
  rw [<- sch_formA hx,<- eA_false hT (lex_kinds hL) hM hy hx]
  exact rwhole_ok w s false hs hL hy hM
theorem rwhole_sch (w:World) (s:ByteArray) (hs:s.size <= 16384) {r:An Fm} (h:RdF true (bys s) r):Calls Tryz.prog 28 #[.string s,.bool true] w (OutF w (schA r)):=by
 cases h with
 | lexbad hL he => exact rwhole_lexbad w s true hs hL he
 | @read ts p n x hL hx =>
  obtain ⟨M,hM⟩:=fst_ex ts (ts.length - 1)
  rw [show resF ts x = eA true M ts x by unfold eA; rw [if_neg (fun h => by cases h.1)]]
  exact rwhole_ok w s true hs hL hx hM
set_option maxRecDepth 100000 in
set_option maxHeartbeats 4000000 in
theorem rform_call (w:World) (s:ByteArray) (hs:s.size <= 16384) {r:An Fm} (h:RdF false (bys s) r):Calls Tryz.prog 10 #[.string s] w (OutF w (formA r)):=by
 have hc:=rwhole_form (w.alloc (.cells #[.int .u8 0,.string ⟨#[]⟩,.slice none 0 0,.slice none 0 0] 28)) s hs h
 obtain ⟨q,hq⟩:∃ q,q = formA r:=⟨_,rfl⟩
 rw [<- hq] at hc ⊢
 unfold OutF at hc
 have HC:=hid hc
 have hz0:=HK.blk_new w (.cells #[.int .u8 0,.string ⟨#[]⟩,.slice none 0 0,.slice none 0 0] 28)
 have HZ0:=hid hz0
 clear hc hq h hz0
 go_enter Tryz.func10,Tryz.ntmps10
 go_wp2_with (fail)
 go_at_call 28
 with_reducible refine HC.out.mono ?_
 rintro _ w2 ⟨hB2,ro,rn,ra,rb,rc,rd,re,rf,rfl,hv⟩
 have HBW:=hid ((bl_al9 (W:=w) (.cells #[.int .u8 0,.string ⟨#[]⟩,.slice none 0 0,.slice none 0 0] 28)).trans (hB2.mono (bl_al9 (W:=w) (.cells #[.int .u8 0,.string ⟨#[]⟩,.slice none 0 0,.slice none 0 0] 28)).size))
 have hz:=(hB2.block _ (HK.blk_lt HZ0.out)).trans HZ0.out
 have HZ:=hid hz
 have HV:=hid hv
 have u0:=HK.blk_cell hz 0
 have u1:=HK.blk_cell hz 1
 have u2:=HK.blk_cell hz 2
 have u3:=HK.blk_cell hz 3
 have uf:=fun i => HK.blk_frozen hz i
 clear hB2 hv hz
 go_wp2_with (fail)
 refine bodyPost_ret (results_c1t2 (p:=2) (u:=3) (v:=4) (ty:=28) (by kernel_rfl) _ _ w.heap.size 28 _ (0,0) _ _ _ rfl rfl rfl (pset4 HZ.out _ _ _ _) Tryz.underlying28 rfl (by kernel_rfl)) rfl ?_
 refine ⟨below4 HBW.out (Nat.le_refl _) _ _ _ _,_,_,_,_,_,_,_,_,rfl,?_⟩
 have h5:FmS (RS w w.heap.size w2) w2 (anF q) (.agg #[.int .u8 ro,.string rn,.slice ra rb rc,.slice rd re rf]):=FmS.turn (S:=SL' (w.alloc (.cells #[.int .u8 0,.string ⟨#[]⟩,.slice none 0 0,.slice none 0 0] 28)).heap.size w2.heap.size) (W:=w2) HV.out fun j hj => by
  have h1:=hj.1
  simp only [World.size_alloc] at h1
  exact ⟨⟨by omega,hj.2,by omega⟩,rfl⟩
 exact (fin_box h5 (.int .u8 ro) (.string rn) (.slice ra rb rc) (.slice rd re rf)).turn fun j hj => ⟨⟨Nat.le_of_lt hj.1,hj.2⟩,rfl⟩
set_option maxRecDepth 100000 in
set_option maxHeartbeats 4000000 in
theorem rsch_call (w:World) (s:ByteArray) (hs:s.size <= 16384) {r:An Fm} (h:RdF true (bys s) r):Calls Tryz.prog 13 #[.string s] w (OutF w (schA r)):=by
 have hc:=rwhole_sch (w.alloc (.cells #[.int .u8 0,.string ⟨#[]⟩,.slice none 0 0,.slice none 0 0] 28)) s hs h
 obtain ⟨q,hq⟩:∃ q,q = schA r:=⟨_,rfl⟩
 rw [<- hq] at hc ⊢
 unfold OutF at hc
 have HC:=hid hc
 have hz0:=HK.blk_new w (.cells #[.int .u8 0,.string ⟨#[]⟩,.slice none 0 0,.slice none 0 0] 28)
 have HZ0:=hid hz0
 clear hc hq h hz0
 go_enter Tryz.func13,Tryz.ntmps13
 go_wp2_with (fail)
 go_at_call 28
 with_reducible refine HC.out.mono ?_
 rintro _ w2 ⟨hB2,ro,rn,ra,rb,rc,rd,re,rf,rfl,hv⟩
 have HBW:=hid ((bl_al9 (W:=w) (.cells #[.int .u8 0,.string ⟨#[]⟩,.slice none 0 0,.slice none 0 0] 28)).trans (hB2.mono (bl_al9 (W:=w) (.cells #[.int .u8 0,.string ⟨#[]⟩,.slice none 0 0,.slice none 0 0] 28)).size))
 have hz:=(hB2.block _ (HK.blk_lt HZ0.out)).trans HZ0.out
 have HZ:=hid hz
 have HV:=hid hv
 have u0:=HK.blk_cell hz 0
 have u1:=HK.blk_cell hz 1
 have u2:=HK.blk_cell hz 2
 have u3:=HK.blk_cell hz 3
 have uf:=fun i => HK.blk_frozen hz i
 clear hB2 hv hz
 go_wp2_with (fail)
 refine bodyPost_ret (results_c1t2 (p:=2) (u:=3) (v:=4) (ty:=28) (by kernel_rfl) _ _ w.heap.size 28 _ (0,0) _ _ _ rfl rfl rfl (pset4 HZ.out _ _ _ _) Tryz.underlying28 rfl (by kernel_rfl)) rfl ?_
 refine ⟨below4 HBW.out (Nat.le_refl _) _ _ _ _,_,_,_,_,_,_,_,_,rfl,?_⟩
 have h5:FmS (RS w w.heap.size w2) w2 (anF q) (.agg #[.int .u8 ro,.string rn,.slice ra rb rc,.slice rd re rf]):=FmS.turn (S:=SL' (w.alloc (.cells #[.int .u8 0,.string ⟨#[]⟩,.slice none 0 0,.slice none 0 0] 28)).heap.size w2.heap.size) (W:=w2) HV.out fun j hj => by
  have h1:=hj.1
  simp only [World.size_alloc] at h1
  exact ⟨⟨by omega,hj.2,by omega⟩,rfl⟩
 exact (fin_box h5 (.int .u8 ro) (.string rn) (.slice ra rb rc) (.slice rd re rf)).turn fun j hj => ⟨⟨Nat.le_of_lt hj.1,hj.2⟩,rfl⟩
end Go.Proofs.YtdobflpbkfkmgaaGreatDoor
