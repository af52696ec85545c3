import Derived.Test.YtdobflpbkfkmgaaGreatDoorR6f
import Derived.Test.YtdobflpbkfkmgaaGreatDoorAwc
import Derived.Test.YtdobflpbkfkmgaaGreatDoorLaid
namespace Go.Proofs.YtdobflpbkfkmgaaGreatDoor
open Go.RowKit Go.HK Go.FR Lib
set_option linter.unusedVariables false
set_option linter.unusedSimpArgs false
set_option linter.unusedSectionVars false
theorem rdT_total9 (m:Bool) {l:List UInt8} (hl:l.length <= 16384):∃ r,RdT m l r:=by
 obtain ⟨ts,p,e,hL⟩:=lex_total _ l (Nat.le_refl _) 0
 by_cases he:e = 0
 ·subst he
  have hT:=tsok_of_lex hl hL
  obtain ⟨x,hx⟩:=run_total (metas:=m) hT.en (10 * (ts.length - 1 - 0) + rank .term + 1) .term 0 0 (Nat.zero_le _) (by simp) (Nat.lt_succ_self _)
  exact ⟨_,.read hL hx⟩
 ·exact ⟨_,.lexbad hL he⟩
def anL:An (List Fm) -> List Fm
 | .ok l => l
 | .bad _ _ => []
def OutL (w:World) (a:An (List Fm)) (E:Ending) (W':World):Prop:=Below w.heap.size w W' /\ ∃ (aa:Option Addr) (an ac:Nat),E = .returned (.tuple #[.slice aa an ac,.int .i64 (anP a:Int),.int .i64 (anE a)]) /\ IsFs (SL' w.heap.size W'.heap.size) W' ⟨aa,an,ac⟩ (anL a)
theorem RetLs.out {w:World} {a:An (List Fm)} {E:Ending} {W':World} (h:RetLs w a E W'):OutL w a E W':=by
 obtain ⟨hB,h⟩:=h
 cases a with
 | ok l =>
  obtain ⟨v,he,⟨aa,an,ac⟩,rfl,hv⟩:=h
  exact ⟨hB,aa,an,ac,he,hv⟩
 | bad p e => exact ⟨hB,none,0,0,h,.nil _ _⟩
theorem same9_v {W:World} {lo lo2:Nat} {f:Fm} {v v2:Value} (h:FmV W lo f v) (h2:FmV W lo2 f v2) (hN:nodesF f <= 1000000):Calls Tryz.prog 11 #[v,v2] W (RetY W):=by
 obtain ⟨a,s,rfl,b1,b2,b3,b4⟩:=h
 obtain ⟨c,d,rfl,e1,e2,e3,e4⟩:=h2
 exact form_same f hN W a s c d (b1.turn fun k hk => ⟨hk.2,rfl⟩) (e1.turn fun k hk => ⟨hk.2,rfl⟩) (b2.turn fun k hk => ⟨hk.2,rfl⟩) (e2.turn fun k hk => ⟨hk.2,rfl⟩)
theorem nodesL_le {N:Nat}:∀ {l:List Fm},(∀ f ∈ l,nodesF f <= N) -> nodesL l <= l.length * N
 | [],_ => by simp [nodesL]
 | f :: r,h => by
  have h1:=h f (List.mem_cons_self ..)
  have h2:=nodesL_le (l:=r) fun g hg => h g (List.mem_cons_of_mem _ hg)
  simp only [nodesL,List.length_cons,Nat.add_mul,Nat.one_mul]
  omega
theorem anF_form {s:ByteArray} {r:An Fm} (hs:s.size <= 16384) (h:RdF false (bys s) r):nodesF (anF (formA r)) <= 1000000:=by
 cases r with
 | bad p e => show 1 + nodesTs [] + nodesL [] <= _; simp [nodesTs,nodesL]
 | ok f =>
  obtain ⟨_,_,_,_,_,_,_,hN⟩:=rdF_ok (l:=bys s) hs h rfl
  simp only [formA]
  split
  ·simp only [anF]; omega
  ·show 1 + nodesTs [] + nodesL [] <= _; simp [nodesTs,nodesL]
theorem anF_sch {s:ByteArray} {r:An Fm} (hs:s.size <= 16384) (h:RdF true (bys s) r):nodesF (anF (schA r)) <= 1000000:=by
 cases r with
 | bad p e => show 1 + nodesTs [] + nodesL [] <= _; simp [nodesTs,nodesL]
 | ok f =>
  obtain ⟨_,_,_,_,_,_,_,hN⟩:=rdF_ok (l:=bys s) hs h rfl
  simp only [schA]
  split
  ·simp only [anF]; omega
  ·show 1 + nodesTs [] + nodesL [] <= _; simp [nodesTs,nodesL]
theorem anT_term {s:ByteArray} {r:An Tm} (hs:s.size <= 16384) (h:RdT false (bys s) r):nodesT (anT (termA r)) <= 900000:=by
 cases r with
 | bad p e => show 1 + nodesTs [] <= _; simp [nodesTs]
 | ok f =>
  obtain ⟨_,_,_,_,_,_,_,hN⟩:=rdT_ok (l:=bys s) hs h rfl
  simp only [termA]
  split
  ·simp only [anT]; omega
  ·show 1 + nodesTs [] <= _; simp [nodesTs]
theorem anL_forms (r:An (List Fm)):nodesL (anL (formsA r)) <= 1000000:=by
 cases r with
 | bad p e => simp [formsA,anL,nodesL]
 | ok l =>
  simp only [formsA]
  split
  ·rename_i hall
   split
   ·simp [anL,nodesL]
   ·rename_i h64
    have h:=nodesL_le (N:=400) (l:=l) fun f hf => by
     have h1:=List.all_eq_true.1 hall f hf
     unfold rightF at h1
     simp only [Bool.and_eq_true,decide_eq_true_iff] at h1
     omega
    simp only [anL]
    omega
  ·simp [anL,nodesL]
set_option maxRecDepth 100000 in
set_option maxHeartbeats 16000000 in
theorem parses_any (w:World) (hL:LaidAll w) (s:ByteArray) (hs:s.size <= 16384):Calls Tryz.prog 5 #[.string s] w (RetY w):=by
 obtain ⟨r1,h1⟩:=rdF_total false (l:=bys s) hs
 obtain ⟨r2,h2⟩:=rdF_total true (l:=bys s) hs
 obtain ⟨r3,h3⟩:=rdT_total9 false (l:=bys s) hs
 obtain ⟨r4,h4⟩:=rdL_total false (l:=bys s) hs
 have hn1:=anF_form hs h1
 have hn2:=anF_sch hs h2
 have hn3:=anT_term hs h3
 have hn4:=anL_forms r4
 have hc9:=fun (W:World) (hB:Below w.heap.size w W) => form_out W (hL.below hB) s hs h1
 have hc10:=fun (W:World) => rform_call W s hs h1
 have hc12:=fun (W:World) (hB:Below w.heap.size w W) => sch_out W (hL.below hB) s hs h2
 have hc13:=fun (W:World) => rsch_call W s hs h2
 have hc14:=fun (W:World) (hB:Below w.heap.size w W) => term_out W (hL.below hB) s hs h3
 have hc15:=fun (W:World) => rterm5_call W s hs h3
 have hc17:=fun (W:World) (hB:Below w.heap.size w W) => (forms_call W s hs (hL.below hB) h4).mono fun _ _ h => h.out
 have hc18:=fun (W:World) => (rforms_call W s hs h4).mono fun _ _ h => h.out
 obtain ⟨a1,ha1⟩:∃ a,a = formA r1:=⟨_,rfl⟩
 obtain ⟨a2,ha2⟩:∃ a,a = schA r2:=⟨_,rfl⟩
 obtain ⟨a3,ha3⟩:∃ a,a = termA r3:=⟨_,rfl⟩
 obtain ⟨a4,ha4⟩:∃ a,a = formsA r4:=⟨_,rfl⟩
 rw [<- ha1] at hn1 hc9 hc10
 rw [<- ha2] at hn2 hc12 hc13
 rw [<- ha3] at hn3 hc14 hc15
 rw [<- ha4] at hn4 hc17 hc18
 unfold OutF at hc9 hc10 hc12 hc13
 unfold OutT at hc14 hc15
 unfold OutL at hc17 hc18
 have HN1:=hid hn1
 have HN2:=hid hn2
 have HN3:=hid hn3
 have HN4:=hid hn4
 have HC9:=hid hc9
 have HC10:=hid hc10
 have HC12:=hid hc12
 have HC13:=hid hc13
 have HC14:=hid hc14
 have HC15:=hid hc15
 have HC17:=hid hc17
 have HC18:=hid hc18
 clear hn1 hn2 hn3 hn4 hc9 hc10 hc12 hc13 hc14 hc15 hc17 hc18 ha1 ha2 ha3 ha4 h1 h2 h3 h4 hL hs
 obtain ⟨x1,hx1⟩:∃ x:Int,x = (anP a1:Int):=⟨_,rfl⟩
 obtain ⟨y1,hy1⟩:∃ x:Int,x = anE a1:=⟨_,rfl⟩
 obtain ⟨x2,hx2⟩:∃ x:Int,x = (anP a2:Int):=⟨_,rfl⟩
 obtain ⟨y2,hy2⟩:∃ x:Int,x = anE a2:=⟨_,rfl⟩
 obtain ⟨x3,hx3⟩:∃ x:Int,x = (anP a3:Int):=⟨_,rfl⟩
 obtain ⟨y3,hy3⟩:∃ x:Int,x = anE a3:=⟨_,rfl⟩
 obtain ⟨x4,hx4⟩:∃ x:Int,x = (anP a4:Int):=⟨_,rfl⟩
 obtain ⟨y4,hy4⟩:∃ x:Int,x = anE a4:=⟨_,rfl⟩
 rw [<- hx1,<- hy1] at HC9 HC10
 rw [<- hx2,<- hy2] at HC12 HC13
 rw [<- hx3,<- hy3] at HC14 HC15
 rw [<- hx4,<- hy4] at HC17 HC18
 clear hx1 hy1 hx2 hy2 hx3 hy3 hx4 hy4
 go_enter Tryz.func5,Tryz.ntmps5
 go_wp2_with (fail)
 go_at_call 9
 with_reducible refine (HC9.out w (Below.refl _ _)).mono ?_
 rintro _ w1 ⟨hB1,po,pn,pa,pb,pc,pd,pe,pf,rfl,hv1⟩
 have hk3:=HK.blk_new w1 (.cells #[.int .u8 po,.string pn,.slice pa pb pc,.slice pd pe pf] 28)
 have hBa:=hB1.alloc hB1.size (.cells #[.int .u8 po,.string pn,.slice pa pb pc,.slice pd pe pf] 28)
 have hva:=hv1.turn (lo':=w.heap.size) ((⟨Nat.le_refl _,Nat.le_refl _,fun _ _ _ => rfl⟩:Up w.heap.size w.heap.size w1 w1).alloc (.cells #[.int .u8 po,.string pn,.slice pa pb pc,.slice pd pe pf] 28))
 have hs1:=hB1.size
 have HS1:=hid hs1
 clear hB1 hv1 hs1
 go_upto_region 2 with (fail)
 obtain ⟨b3,hb3⟩:∃ b,b = w1.heap.size:=⟨_,rfl⟩
 rw [<- hb3] at hk3 ⊢
 obtain ⟨w2,hw2⟩:∃ x,x = w1.alloc (.cells #[.int .u8 po,.string pn,.slice pa pb pc,.slice pd pe pf] 28):=⟨_,rfl⟩
 rw [<- hw2] at hk3 hBa hva ⊢
 have HK3:=hid hk3
 have HBa:=hid hBa
 have HVa:=hid hva
 have HB3:Hid (w.heap.size <= b3):=hid (by rw [hb3]; exact HS1.out)
 clear hk3 hBa hva hw2 hb3
 go_wp2_with (fail)
 go_at_call 10
 with_reducible refine (HC10.out w2).mono ?_
 rintro _ w3 ⟨hB3,qo,qn,qa,qb,qc,qd,qe,qf,rfl,hv3⟩
 have hk3:=HK.blk_alloc ((hB3.block _ (HK.blk_lt HK3.out)).trans HK3.out) (.cells #[.int .u8 qo,.string qn,.slice qa qb qc,.slice qd qe qf] 28)
 have hk6:=HK.blk_new w3 (.cells #[.int .u8 qo,.string qn,.slice qa qb qc,.slice qd qe qf] 28)
 have hBb:=(HBa.out.trans (hB3.mono HBa.out.size)).alloc (HBa.out.trans (hB3.mono HBa.out.size)).size (.cells #[.int .u8 qo,.string qn,.slice qa qb qc,.slice qd qe qf] 28)
 have hva:=(HVa.out.turn (lo':=w.heap.size) (W':=w3) ⟨Nat.le_refl _,hB3.size,fun k _ hk => hB3.block k hk⟩).turn (lo':=w.heap.size) ((⟨Nat.le_refl _,Nat.le_refl _,fun _ _ _ => rfl⟩:Up w.heap.size w.heap.size w3 w3).alloc (.cells #[.int .u8 qo,.string qn,.slice qa qb qc,.slice qd qe qf] 28))
 have hvb:=hv3.turn (lo':=w2.heap.size) ((⟨Nat.le_refl _,Nat.le_refl _,fun _ _ _ => rfl⟩:Up w2.heap.size w2.heap.size w3 w3).alloc (.cells #[.int .u8 qo,.string qn,.slice qa qb qc,.slice qd qe qf] 28))
 have hs3:=hB3.size
 have HS3:=hid hs3
 clear hB3 hv3 hs3
 go_upto_region 3 with (fail)
 obtain ⟨b6,hb6⟩:∃ b,b = w3.heap.size:=⟨_,rfl⟩
 rw [<- hb6] at hk6 ⊢
 obtain ⟨w4,hw4⟩:∃ x,x = w3.alloc (.cells #[.int .u8 qo,.string qn,.slice qa qb qc,.slice qd qe qf] 28):=⟨_,rfl⟩
 rw [<- hw4] at hk3 hk6 hBb hva hvb ⊢
 have hsm:=same9_v hva hvb HN1.out
 have HSM:=hid hsm
 have HK3':=hid hk3
 have HK6:=hid hk6
 have HBb:=hid hBb
 have HNE:Hid (b3 < b6):=hid (by rw [hb6]; have:=HK.blk_lt HK3.out; have:=HS3.out; omega)
 have y0:=HK.blk_cell hk3 0
 have y1:=HK.blk_cell hk3 1
 have y2:=HK.blk_cell hk3 2
 have y3:=HK.blk_cell hk3 3
 have z0:=HK.blk_cell hk6 0
 have z1:=HK.blk_cell hk6 1
 have z2:=HK.blk_cell hk6 2
 have z3:=HK.blk_cell hk6 3
 clear hk3 hk6 hBb hva hvb hw4 hb6 hsm HVa
 go_upto_region 5 with (go_at_call 11; ((with_reducible refine HSM.out.mono ?_); rintro _ w5 ⟨rfl,hB5⟩; have HB5:=hid hB5; clear hB5))
 clear y0 y1 y2 y3 z0 z1 z2 z3
 have hk3:=(HB5.out.block _ (HK.blk_lt HK3'.out)).trans HK3'.out
 have hk6:=(HB5.out.block _ (HK.blk_lt HK6.out)).trans HK6.out
 have HBc:=hid (HBb.out.trans (HB5.out.mono HBb.out.size))
 have HK35:=hid hk3
 have HK65:=hid hk6
 clear hk3 hk6
 go_wp2_with (fail)
 go_at_call 12
 with_reducible refine (HC12.out w5 HBc.out).mono ?_
 rintro _ w6 ⟨hB6,po,pn,pa,pb,pc,pd,pe,pf,rfl,hv6⟩
 have HBd:=hid (HBc.out.trans (hB6.mono HBc.out.size))
 have hk3:=(hB6.block _ (HK.blk_lt HK35.out)).trans HK35.out
 have hk6:=(hB6.block _ (HK.blk_lt HK65.out)).trans HK65.out
 have hl5:b3 < w5.heap.size /\ b6 < w5.heap.size:=⟨HK.blk_lt HK35.out,HK.blk_lt HK65.out⟩
 have HL5:=hid hl5
 have HV6:=hid hv6
 have HB6s:Hid (w5.heap.size <= w6.heap.size):=hid hB6.size
 have HK36:=hid hk3
 have HK66:=hid hk6
 have y0:=HK.blk_cell hk3 0
 have y1:=HK.blk_cell hk3 1
 have y2:=HK.blk_cell hk3 2
 have y3:=HK.blk_cell hk3 3
 have yf:=fun i => HK.blk_frozen hk3 i
 clear hk3 hk6 hl5 hv6 hB6
 go_upto_region 6 with (fail)
 clear y0 y1 y2 y3 yf
 have hk3:=pset4 HK36.out (.int .u8 po) (.string pn) (.slice pa pb pc) (.slice pd pe pf)
 have hk6:=(heap4 (w:=w6) (b:=b3) (B:=b6) (by have:=HNE.out; omega) (.int .u8 po) (.string pn) (.slice pa pb pc) (.slice pd pe pf)).trans HK66.out
 have hbd:=below4 HBd.out HB3.out (.int .u8 po) (.string pn) (.slice pa pb pc) (.slice pd pe pf)
 have hv7:FmV ((((w6.setCell ⟨b3,0,none⟩ (.int .u8 po)).setCell ⟨b3,1,none⟩ (.string pn)).setCell ⟨b3,2,none⟩ (.slice pa pb pc)).setCell ⟨b3,3,none⟩ (.slice pd pe pf)) w5.heap.size (anF a2) (.agg #[.int .u8 po,.string pn,.slice pa pb pc,.slice pd pe pf]):=FmS.turn (S:=SL' w5.heap.size w6.heap.size) (W:=w6) HV6.out fun j hj => ⟨⟨hj.1,by rw [size4]; exact hj.2⟩,heap4 (by have:=hj.1; have:=HL5.out.1; omega) _ _ _ _⟩
 obtain ⟨w7,hw7⟩:∃ x,x = (((w6.setCell ⟨b3,0,none⟩ (.int .u8 po)).setCell ⟨b3,1,none⟩ (.string pn)).setCell ⟨b3,2,none⟩ (.slice pa pb pc)).setCell ⟨b3,3,none⟩ (.slice pd pe pf):=⟨_,rfl⟩
 have hz7:w7.heap.size = w6.heap.size:=by rw [hw7]; exact size4 _ _ _ _
 rw [<- hw7] at hk3 hk6 hbd hv7 ⊢
 have HZ7:=hid hz7
 have HK37:=hid hk3
 have HK67:=hid hk6
 have HBe:=hid hbd
 have HV7:=hid hv7
 clear hk3 hk6 hbd hv7 hw7 hz7
 go_wp2_with (fail)
 go_at_call 13
 with_reducible refine (HC13.out w7).mono ?_
 rintro _ w8 ⟨hB8,qo,qn,qa,qb,qc,qd,qe,qf,rfl,hv8⟩
 have HBf:=hid (HBe.out.trans (hB8.mono HBe.out.size))
 have hk3:=(hB8.block _ (HK.blk_lt HK37.out)).trans HK37.out
 have hk6:=(hB8.block _ (HK.blk_lt HK67.out)).trans HK67.out
 have hv7:=HV7.out.turn (lo':=w5.heap.size) (W':=w8) ⟨Nat.le_refl _,hB8.size,fun k _ hk => hB8.block k hk⟩
 have HV8:=hid hv8
 have HV78:=hid hv7
 have HK38:=hid hk3
 have HK68:=hid hk6
 have HB8s:Hid (w7.heap.size <= w8.heap.size):=hid hB8.size
 have z0:=HK.blk_cell hk6 0
 have z1:=HK.blk_cell hk6 1
 have z2:=HK.blk_cell hk6 2
 have z3:=HK.blk_cell hk6 3
 have zf:=fun i => HK.blk_frozen hk6 i
 clear hk3 hk6 hv8 hv7 hB8
 go_upto_region 7 with (fail)
 clear z0 z1 z2 z3 zf
 have hk6:=pset4 HK68.out (.int .u8 qo) (.string qn) (.slice qa qb qc) (.slice qd qe qf)
 have hk3:=(heap4 (w:=w8) (b:=b6) (B:=b3) (by have:=HNE.out; omega) (.int .u8 qo) (.string qn) (.slice qa qb qc) (.slice qd qe qf)).trans HK38.out
 have hbd:=below4 HBf.out (show w.heap.size <= b6 by have:=HB3.out; have:=HNE.out; omega) (.int .u8 qo) (.string qn) (.slice qa qb qc) (.slice qd qe qf)
 have hvq:FmV ((((w8.setCell ⟨b6,0,none⟩ (.int .u8 qo)).setCell ⟨b6,1,none⟩ (.string qn)).setCell ⟨b6,2,none⟩ (.slice qa qb qc)).setCell ⟨b6,3,none⟩ (.slice qd qe qf)) w7.heap.size (anF a2) (.agg #[.int .u8 qo,.string qn,.slice qa qb qc,.slice qd qe qf]):=FmS.turn (S:=SL' w7.heap.size w8.heap.size) (W:=w8) HV8.out fun j hj => ⟨⟨hj.1,by rw [size4]; exact hj.2⟩,heap4 (by have:=hj.1; have:=HL5.out.2; have:=HZ7.out; have:=HB6s.out; omega) _ _ _ _⟩
 have hvp:FmV ((((w8.setCell ⟨b6,0,none⟩ (.int .u8 qo)).setCell ⟨b6,1,none⟩ (.string qn)).setCell ⟨b6,2,none⟩ (.slice qa qb qc)).setCell ⟨b6,3,none⟩ (.slice qd qe qf)) w5.heap.size (anF a2) (.agg #[.int .u8 po,.string pn,.slice pa pb pc,.slice pd pe pf]):=FmS.turn (S:=SL' w5.heap.size w8.heap.size) (W:=w8) HV78.out fun j hj => ⟨⟨hj.1,by rw [size4]; exact hj.2⟩,heap4 (by have:=hj.1; have:=HL5.out.2; omega) _ _ _ _⟩
 obtain ⟨w9,hw9⟩:∃ x,x = (((w8.setCell ⟨b6,0,none⟩ (.int .u8 qo)).setCell ⟨b6,1,none⟩ (.string qn)).setCell ⟨b6,2,none⟩ (.slice qa qb qc)).setCell ⟨b6,3,none⟩ (.slice qd qe qf):=⟨_,rfl⟩
 rw [<- hw9] at hk3 hk6 hbd hvq hvp ⊢
 have hsm:=same9_v hvp hvq HN2.out
 have HSM2:=hid hsm
 have HBg:=hid hbd
 have y0:=HK.blk_cell hk3 0
 have y1:=HK.blk_cell hk3 1
 have y2:=HK.blk_cell hk3 2
 have y3:=HK.blk_cell hk3 3
 have z0:=HK.blk_cell hk6 0
 have z1:=HK.blk_cell hk6 1
 have z2:=HK.blk_cell hk6 2
 have z3:=HK.blk_cell hk6 3
 clear hk3 hk6 hbd hvp hvq hw9 hsm
 go_upto_region 9 with (go_at_call 11; ((with_reducible refine HSM2.out.mono ?_); rintro _ w10 ⟨rfl,hB10⟩; have HBh:=hid (HBg.out.trans (hB10.mono HBg.out.size)); clear hB10))
 clear y0 y1 y2 y3 z0 z1 z2 z3
 go_wp2_with (fail)
 go_at_call 14
 with_reducible refine (HC14.out w10 HBh.out).mono ?_
 rintro _ w11 ⟨hB11,so,sn,sa,sb,sc,rfl,hv11⟩
 have hk9:=HK.blk_new w11 (.cells #[.bool so,.string sn,.slice sa sb sc] 36)
 have HBi:=hid ((HBh.out.trans (hB11.mono HBh.out.size)).alloc (HBh.out.trans (hB11.mono HBh.out.size)).size (.cells #[.bool so,.string sn,.slice sa sb sc] 36))
 have hva:=hv11.turn (lo':=w10.heap.size) ((⟨Nat.le_refl _,Nat.le_refl _,fun _ _ _ => rfl⟩:Up w10.heap.size w10.heap.size w11 w11).alloc (.cells #[.bool so,.string sn,.slice sa sb sc] 36))
 clear hB11 hv11
 go_upto_region 10 with (fail)
 obtain ⟨b9,hb9⟩:∃ b,b = w11.heap.size:=⟨_,rfl⟩
 rw [<- hb9] at hk9 ⊢
 obtain ⟨w12,hw12⟩:∃ x,x = w11.alloc (.cells #[.bool so,.string sn,.slice sa sb sc] 36):=⟨_,rfl⟩
 rw [<- hw12] at hk9 HBi hva ⊢
 have HK9:=hid hk9
 have HV12:=hid hva
 clear hk9 hva hw12 hb9
 go_wp2_with (fail)
 go_at_call 15
 with_reducible refine (HC15.out w12).mono ?_
 rintro _ w13 ⟨hB13,xo,xn,xa,xb,xc,rfl,hv13⟩
 have hk9:=HK.blk_alloc ((hB13.block _ (HK.blk_lt HK9.out)).trans HK9.out) (.cells #[.bool xo,.string xn,.slice xa xb xc] 36)
 have hk10:=HK.blk_new w13 (.cells #[.bool xo,.string xn,.slice xa xb xc] 36)
 have HBj:=hid ((HBi.out.trans (hB13.mono HBi.out.size)).alloc (HBi.out.trans (hB13.mono HBi.out.size)).size (.cells #[.bool xo,.string xn,.slice xa xb xc] 36))
 have hva:=(HV12.out.turn (lo':=w10.heap.size) (W':=w13) ⟨Nat.le_refl _,hB13.size,fun k _ hk => hB13.block k hk⟩).turn (lo':=w10.heap.size) ((⟨Nat.le_refl _,Nat.le_refl _,fun _ _ _ => rfl⟩:Up w10.heap.size w10.heap.size w13 w13).alloc (.cells #[.bool xo,.string xn,.slice xa xb xc] 36))
 have hvb:=hv13.turn (lo':=w12.heap.size) ((⟨Nat.le_refl _,Nat.le_refl _,fun _ _ _ => rfl⟩:Up w12.heap.size w12.heap.size w13 w13).alloc (.cells #[.bool xo,.string xn,.slice xa xb xc] 36))
 clear hB13 hv13
 go_upto_region 11 with (fail)
 obtain ⟨b10,hb10⟩:∃ b,b = w13.heap.size:=⟨_,rfl⟩
 rw [<- hb10] at hk10 ⊢
 obtain ⟨w14,hw14⟩:∃ x,x = w13.alloc (.cells #[.bool xo,.string xn,.slice xa xb xc] 36):=⟨_,rfl⟩
 rw [<- hw14] at hk9 hk10 HBj hva hvb ⊢
 have hs14:=HK.blk_lt hk10
 have y0:=HK.blk_cell hk9 0
 have y1:=HK.blk_cell hk9 1
 have y2:=HK.blk_cell hk9 2
 have z0:=HK.blk_cell hk10 0
 have z1:=HK.blk_cell hk10 1
 have z2:=HK.blk_cell hk10 2
 have hra:=HK.blk_alloc (HK.blk_new w14 (.cells #[.bool so,.string sn,.slice sa sb sc] 36)) (.cells #[.bool xo,.string xn,.slice xa xb xc] 36)
 have hrb:=HK.blk_new (w14.alloc (.cells #[.bool so,.string sn,.slice sa sb sc] 36)) (.cells #[.bool xo,.string xn,.slice xa xb xc] 36)
 have hup:=((⟨Nat.le_refl _,Nat.le_refl _,fun _ _ _ => rfl⟩:Up w10.heap.size w10.heap.size w14 w14).alloc (.cells #[.bool so,.string sn,.slice sa sb sc] 36)).alloc (.cells #[.bool xo,.string xn,.slice xa xb xc] 36)
 have hup2:=((⟨Nat.le_refl _,Nat.le_refl _,fun _ _ _ => rfl⟩:Up w12.heap.size w12.heap.size w14 w14).alloc (.cells #[.bool so,.string sn,.slice sa sb sc] 36)).alloc (.cells #[.bool xo,.string xn,.slice xa xb xc] 36)
 have hsm:=terms_same [anT a3] (by have:=HN3.out; simp only [nodesTs]; omega) ((w14.alloc (.cells #[.bool so,.string sn,.slice sa sb sc] 36)).alloc (.cells #[.bool xo,.string xn,.slice xa xb xc] 36)) _ _ (one_v (hva.turn hup) hra) (one_v (hvb.turn hup2) hrb)
 have HSM3:=hid hsm
 have HBk:=hid ((HBj.out.alloc HBj.out.size (.cells #[.bool so,.string sn,.slice sa sb sc] 36)).alloc (by have:=HBj.out.size; simp; omega) (.cells #[.bool xo,.string xn,.slice xa xb xc] 36))
 simp only [SL.v,World.size_alloc] at HSM3
 clear hk9 hk10 hva hvb hw14 hb10 hra hrb hup hup2 hsm
 go_upto_region 13 with (go_at_call 16; ((with_reducible refine HSM3.out.mono ?_); rintro _ w15 ⟨rfl,hB15⟩; have HBl:=hid (HBk.out.trans (hB15.mono HBk.out.size)); clear hB15))
 clear y0 y1 y2 z0 z1 z2
 go_wp2_with (fail)
 go_at_call 17
 with_reducible refine (HC17.out w15 HBl.out).mono ?_
 rintro _ w16 ⟨hB16,la,ln,lc,rfl,hv16⟩
 have HBm:=hid (HBl.out.trans (hB16.mono HBl.out.size))
 have HV16:=hid hv16
 clear hB16 hv16
 go_wp2_with (fail)
 go_at_call 18
 with_reducible refine (HC18.out w16).mono ?_
 rintro _ w17 ⟨hB17,ma,mn,mc,rfl,hv17⟩
 have HBn:=hid (HBm.out.trans (hB17.mono HBm.out.size))
 have hva:=HV16.out.turn (T:=SN w17) (W':=w17) fun k hk => ⟨Nat.lt_of_lt_of_le hk.2 hB17.size,hB17.block k hk.2⟩
 have hvb:=hv17.turn (T:=SN w17) (W':=w17) fun k hk => ⟨hk.2,rfl⟩
 have hsm:=forms_same (anL a4) HN4.out w17 ⟨la,ln,lc⟩ ⟨ma,mn,mc⟩ hva hvb
 have HSM4:=hid hsm
 simp only [SL.v] at HSM4
 clear hB17 hv17 hva hvb hsm
 go_wp2_with (go_at_call 19; ((with_reducible refine HSM4.out.mono ?_); rintro _ w18 ⟨rfl,hB18⟩; have HBo:=hid (HBn.out.trans (hB18.mono HBn.out.size)); clear hB18))
 refine bodyPost_ret (v:=.bool true) (by simp [results,Tryz.results5,go_sem]) rfl ?_
 exact ⟨rfl,HBo.out⟩
end Go.Proofs.YtdobflpbkfkmgaaGreatDoor
