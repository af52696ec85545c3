import Derived.Test.YtdobflpbkfkmgaaGreatDoorMpw
import Derived.Test.YtdobflpbkfkmgaaGreatDoorSam
namespace Go.Proofs.YtdobflpbkfkmgaaGreatDoor
open Go.RowKit Go.HK Go.FR Lib
set_option linter.unusedVariables false
set_option linter.unusedSimpArgs false
set_option linter.unusedSectionVars false
inductive An (α:Type) where
 | ok (x:α)
 | bad (p:Nat) (e:Int)
def resF (ts:List Tok):Ot -> An Fm
 | .ok o k => if (tkA ts k).k = 5 then .ok (fmO o) else .bad (tkA ts k).p 50
 | .bad k e => .bad (tkA ts k).p e
def resT (ts:List Tok):Ot -> An Tm
 | .ok o k => if (tkA ts k).k = 5 then .ok (tO o) else .bad (tkA ts k).p 50
 | .bad k e => .bad (tkA ts k).p e
def resL (ts:List Tok):Ol -> An (List Fm)
 | .ok l k => if (tkA ts k).k = 5 then .ok l else .bad (tkA ts k).p 50
 | .bad k e => .bad (tkA ts k).p e
inductive RdF (m:Bool) (l:List UInt8):An Fm -> Prop
 | lexbad {ts p e}:LexL 0 l ts p e -> e ≠ 0 -> RdF m l (.bad p e)
 | read {ts p n x}:LexL 0 l ts p 0 -> run m ts n (.bin 0) 0 0 = some x -> RdF m l (resF ts x)
inductive RdT (m:Bool) (l:List UInt8):An Tm -> Prop
 | lexbad {ts p e}:LexL 0 l ts p e -> e ≠ 0 -> RdT m l (.bad p e)
 | read {ts p n x}:LexL 0 l ts p 0 -> run m ts n .term 0 0 = some x -> RdT m l (resT ts x)
inductive RdL (m:Bool) (l:List UInt8):An (List Fm) -> Prop
 | lexbad {ts p e}:LexL 0 l ts p e -> e ≠ 0 -> RdL m l (.bad p e)
 | read {ts p N n x}:LexL 0 l ts p 0 -> runFs m ts N n 0 = some x -> RdL m l (resL ts x)
def RetF (w:World) (r:An Fm) (E:Ending) (W':World):Prop:=Below w.heap.size w W' /\ match r with
 | .ok f => ∃ v,E = .returned (.tuple #[v,.int .i64 0,.int .i64 0]) /\ FmV W' w.heap.size f v
 | .bad p e => E = .returned (.tuple #[.agg #[.int .u8 0,.string ⟨#[]⟩,.slice none 0 0,.slice none 0 0],.int .i64 (p:Int),.int .i64 e])
def RetTm (w:World) (r:An Tm) (E:Ending) (W':World):Prop:=Below w.heap.size w W' /\ match r with
 | .ok f => ∃ v,E = .returned (.tuple #[v,.int .i64 0,.int .i64 0]) /\ TmV W' w.heap.size f v
 | .bad p e => E = .returned (.tuple #[.agg #[.bool false,.string ⟨#[]⟩,.slice none 0 0],.int .i64 (p:Int),.int .i64 e])
def RetLs (w:World) (r:An (List Fm)) (E:Ending) (W':World):Prop:=Below w.heap.size w W' /\ match r with
 | .ok f => ∃ v,E = .returned (.tuple #[v,.int .i64 0,.int .i64 0]) /\ FsV W' w.heap.size f v
 | .bad p e => E = .returned (.tuple #[.slice none 0 0,.int .i64 (p:Int),.int .i64 e])
theorem read32 (w:World) (s:ByteArray) (m:Bool) (hs:s.size <= 16384) (hG:Signs w) (hV:IsLv w) {r:An Fm} (h:RdF m (bys s) r):Calls Tryz.prog 25 #[.string s,.bool m,.func (.func 26) #[] #[]] w (RetF w r):=by
 cases h with
 | lexbad hL he => exact (read_lexbad w s m hs hG _ _ _ hL he).mono fun E W' ⟨a,b⟩ => ⟨b,a⟩
 | @read ts p n x hL hr =>
  cases x with
  | ok o k =>
   obtain ⟨f,rfl⟩:∃ f,o = .fm f:=⟨_,ty_fm (run_ty m ts n _ _ _ _ hr)⟩
   simp only [resF,fmO]
   split
   ·rename_i hk; exact readF_ok w s m hs hG hV ts p hL hr hk
   ·rename_i hk; exact readF_tail w s m hs hG hV ts p hL hr hk
  | bad k e => exact readF_bad w s m hs hG hV ts p hL hr
theorem read39 (w:World) (s:ByteArray) (m:Bool) (hs:s.size <= 16384) (hG:Signs w) (hV:IsLv w) {r:An Tm} (h:RdT m (bys s) r):Calls Tryz.prog 30 #[.string s,.bool m,.func (.func 31) #[] #[]] w (RetTm w r):=by
 cases h with
 | lexbad hL he => exact (readT_lexbad w s m hs hG _ _ _ hL he).mono fun E W' ⟨a,b⟩ => ⟨b,a⟩
 | @read ts p n x hL hr =>
  cases x with
  | ok o k =>
   obtain ⟨f,rfl⟩:∃ f,o = .t f:=⟨_,ty_t (run_ty m ts n _ _ _ _ hr)⟩
   simp only [resT,tO]
   split
   ·rename_i hk; exact readT_ok w s m hs hG hV ts p hL hr hk
   ·rename_i hk; exact readT_tail w s m hs hG hV ts p hL hr hk
  | bad k e => exact readT_bad w s m hs hG hV ts p hL hr
theorem read37 (w:World) (s:ByteArray) (m:Bool) (hs:s.size <= 16384) (hG:Signs w) (hV:IsLv w) {r:An (List Fm)} (h:RdL m (bys s) r):Calls Tryz.prog 41 #[.string s,.bool m,.func (.func 42) #[] #[]] w (RetLs w r):=by
 cases h with
 | lexbad hL he => exact (readL_lexbad w s m hs hG _ _ _ hL he).mono fun E W' ⟨a,b⟩ => ⟨b,a⟩
 | @read ts p N n x hL hr =>
  cases x with
  | ok o k =>
   simp only [resL]
   split
   ·rename_i hk; exact readL_ok w s m hs hG hV ts p hL hr hk
   ·rename_i hk; exact readL_tail w s m hs hG hV ts p hL hr hk
  | bad k e => exact readL_bad w s m hs hG hV ts p hL hr
theorem rdF_ok {m:Bool} {l:List UInt8} {r:An Fm} {f:Fm} (hl:l.length <= 16384) (h:RdF m l r) (hr:r = .ok f):∃ ts p k,LexL 0 l ts p 0 /\ Rd m ts (.bin 0) 0 0 (.fm f) k /\ (tkA ts k).k = 5 /\ k <= ts.length - 1 /\ nodesF f <= 16384:=by
 cases h with
 | lexbad hL he => cases hr
 | @read ts p n x hL hrn =>
  cases x with
  | bad k e => cases hr
  | ok o k =>
   have hT:=tsok_of_lex hl hL
   simp only [resF] at hr
   split at hr
   ·rename_i hk
    cases hr
    have h1:=run_rd m ts n _ _ _ _ _ hrn
    rw [ty_fm (rd_ty h1)] at h1
    have h2:=rd_nodes h1
    have h3:=run_iz hT.en n _ _ _ _ (Nat.zero_le _) hrn
    simp only [inO] at h3
    have h4:=hT.le
    exact ⟨ts,p,k,hL,h1,hk,h3.2.1,by simp only [nodesO,accN] at h2; omega⟩
   ·cases hr
theorem rdT_ok {m:Bool} {l:List UInt8} {r:An Tm} {f:Tm} (hl:l.length <= 16384) (h:RdT m l r) (hr:r = .ok f):∃ ts p k,LexL 0 l ts p 0 /\ Rd m ts .term 0 0 (.t f) k /\ (tkA ts k).k = 5 /\ k <= ts.length - 1 /\ nodesT f <= 16384:=by
 cases h with
 | lexbad hL he => cases hr
 | @read ts p n x hL hrn =>
  cases x with
  | bad k e => cases hr
  | ok o k =>
   have hT:=tsok_of_lex hl hL
   simp only [resT] at hr
   split at hr
   ·rename_i hk
    cases hr
    have h1:=run_rd m ts n _ _ _ _ _ hrn
    rw [ty_t (rd_ty h1)] at h1
    have h2:=rd_nodes h1
    have h3:=run_iz hT.en n _ _ _ _ (Nat.zero_le _) hrn
    simp only [inO] at h3
    have h4:=hT.le
    exact ⟨ts,p,k,hL,h1,hk,h3.2.1,by simp only [nodesO,accN] at h2; omega⟩
   ·cases hr
theorem tkp_le {ts:List Tok} {z k:Nat} (h:TsOk ts z) (hk:k <= z):(tkA ts k).p <= 16384:=(h.ok k _ (h.get hk)).2.2.2.1
theorem rdF_bad {m:Bool} {l:List UInt8} {r:An Fm} {p:Nat} {e:Int} (hl:l.length <= 16384) (h:RdF m l r) (hr:r = .bad p e):e ≠ 0 /\ p <= 16384:=by
 cases h with
 | lexbad hL he => cases hr; rcases lex_err hL with h | h; exact absurd h.1 he; exact ⟨he,by omega⟩
 | @read ts p n x hL hrn =>
  have hT:=tsok_of_lex hl hL
  cases x with
  | bad k e =>
   have h3:=run_iz hT.en n _ _ _ _ (Nat.zero_le _) hrn
   simp only [inO] at h3
   cases hr; exact ⟨by omega,tkp_le hT h3.2.1⟩
  | ok o k =>
   have h3:=run_iz hT.en n _ _ _ _ (Nat.zero_le _) hrn
   simp only [inO] at h3
   simp only [resF] at hr
   split at hr
   ·cases hr
   ·cases hr; exact ⟨by decide,tkp_le hT h3.2.1⟩
theorem rdT_bad {m:Bool} {l:List UInt8} {r:An Tm} {p:Nat} {e:Int} (hl:l.length <= 16384) (h:RdT m l r) (hr:r = .bad p e):e ≠ 0 /\ p <= 16384:=by
 cases h with
 | lexbad hL he => cases hr; rcases lex_err hL with h | h; exact absurd h.1 he; exact ⟨he,by omega⟩
 | @read ts p n x hL hrn =>
  have hT:=tsok_of_lex hl hL
  cases x with
  | bad k e =>
   have h3:=run_iz hT.en n _ _ _ _ (Nat.zero_le _) hrn
   simp only [inO] at h3
   cases hr; exact ⟨by omega,tkp_le hT h3.2.1⟩
  | ok o k =>
   have h3:=run_iz hT.en n _ _ _ _ (Nat.zero_le _) hrn
   simp only [inO] at h3
   simp only [resT] at hr
   split at hr
   ·cases hr
   ·cases hr; exact ⟨by decide,tkp_le hT h3.2.1⟩
theorem rdF_total (m:Bool) {l:List UInt8} (hl:l.length <= 16384):∃ r,RdF m l r:=by
 obtain ⟨ts,p,e,hL⟩:=lex_total _ l (Nat.le_refl _) 0
 by_cases he:e = 0
 ·subst he
  have hT:=tsok_of_lex hl hL
  obtain ⟨x,hx⟩:=run_total (metas:=m) hT.en (10 * (ts.length - 1 - 0) + rank (.bin 0) + 1) (.bin 0) 0 0 (Nat.zero_le _) (by simp) (Nat.lt_succ_self _)
  exact ⟨_,.read hL hx⟩
 ·exact ⟨_,.lexbad hL he⟩
theorem right_v {W:World} {lo:Nat} {f:Fm} {v:Value} (hrw:IsRows W) (h:FmV W lo f v) (hN:nodesF f <= 900000):Calls Tryz.prog 27 #[v] W (RetW W (rightF f)):=by
 obtain ⟨a,s,rfl,h1,h2,h3,h4⟩:=h
 exact right_call W f a s hrw (szF_of hN) (h1.turn fun k hk => ⟨hk.2,rfl⟩) (h2.turn fun k hk => ⟨hk.2,rfl⟩) h3 h4
theorem sch_v {W:World} {lo:Nat} {f:Fm} {v:Value} (hrw:IsRows W) (h:FmV W lo f v) (hN:nodesF f <= 900000):Calls Tryz.prog 29 #[v] W (RetW W (schF f)):=by
 obtain ⟨a,s,rfl,h1,h2,h3,h4⟩:=h
 exact schema_call W f a s hrw (szF_of hN) (h1.turn fun k hk => ⟨hk.2,rfl⟩) (h2.turn fun k hk => ⟨hk.2,rfl⟩) h3 h4
theorem termr_v {W:World} {lo:Nat} {f:Tm} {v:Value} (h:TmV W lo f v) (hN:nodesT f <= 900000):Calls Tryz.prog 32 #[v] W (RetW W (rightT f)):=by
 obtain ⟨s,rfl,h1,h4⟩:=h
 exact termr_call W f s hN (h1.turn fun k hk => ⟨hk.2,rfl⟩) h4
theorem results_c1t2 {P:Program} {fn:Func} {p u v:Tmp} {ty:TypeId} (h:fn.results = #[.cell p ty,.tmp u,.tmp v]) (tmps:Array Value) (w:World) (g:Nat) (t:TypeId) (cs:Array Value) (fr:Nat × Nat) (d:TypeDesc) (b c:Value)
  (hp:tmps.getD p undef = .pointer (some ⟨g,0,none⟩)) (hb:tmps.getD u undef = b) (hc:tmps.getD v undef = c) (hg:w.heap[g]? = some (.cells cs t fr))
  (hu:P.underlying ty = some d) (hd:(match d with | .struct _ | .array _ _ => true | _ => false) = true) (hi:(P.info? ty).map (·.size) = some cs.size) :
  (results fn tmps).run P w = .ok (.tuple #[.agg cs,b,c]) w:=by
 have e:(results fn tmps).run P w = ((asAddr (tmps.getD p undef)).run P w).andThen fun a w₁ => ((loadVar ty a).run P w₁).andThen fun x w₂ => .ok (.tuple #[x,tmps.getD u undef,tmps.getD v undef]) w₂:=by
  simp only [results,h]
  simp [Sem.run_bind,Result.andThen]
 rw [e,hp,hb,hc]
 simp [asAddr,run_loadVar_row w g t ty cs fr d hg hu hd hi,Result.andThen]
def formA (r:An Fm):An Fm:=match r with | .ok f => if rightF f = true then .ok f else .bad 0 3 | x => x
def schA (r:An Fm):An Fm:=match r with | .ok f => if schF f = true then .ok f else .bad 0 3 | x => x
set_option maxRecDepth 100000 in
set_option maxHeartbeats 2000000 in
theorem formA_bad (w:World) (s:ByteArray) (hs:s.size <= 16384) (hG:Signs w) (hV:IsLv w) {p:Nat} {e:Int} (h:RdF false (bys s) (.bad p e)):Calls Tryz.prog 9 #[.string s] w (RetF w (.bad p e)):=by
 have he:=(rdF_bad (l:=bys s) hs h rfl).1
 have hc:=fun (W:World) (hB:Below w.heap.size w W) => read32 W s false hs (hG.below hB) (hV.turn (hB.block 0 hV.pos)) h
 unfold RetF at hc ⊢
 simp only [] at hc ⊢
 have he1:(e == 0) = false:=by simp [he]
 have HC:=hid hc
 clear hc hG hV hs h he
 go_enter Tryz.func9,Tryz.ntmps9
 go_wp2_with (fail)
 go_at_call 25
 with_reducible refine (HC.out _ ((Below.refl _ w).alloc (Nat.le_refl _) _)).mono ?_
 rintro E w1 ⟨hB1,rfl⟩
 have hk:=(hB1.block w.heap.size (by simp)).trans (HK.blk_new w (.cells #[.int .u8 0,.string ⟨#[]⟩,.slice none 0 0,.slice none 0 0] 28))
 have c0:=HK.blk_cell hk 0
 have c1:=HK.blk_cell hk 1
 have c2:=HK.blk_cell hk 2
 have c3:=HK.blk_cell hk 3
 have f0:=HK.blk_frozen hk 0
 have f1:=HK.blk_frozen hk 1
 have f2:=HK.blk_frozen hk 2
 have f3:=HK.blk_frozen hk 3
 have hB:Below w.heap.size w w1:=((Below.refl _ w).alloc (Nat.le_refl _) (.cells #[.int .u8 0,.string ⟨#[]⟩,.slice none 0 0,.slice none 0 0] 28)).trans (hB1.mono (by simp))
 have hlt:=HK.blk_lt hk
 have hne:¬ w1.heap.size = w.heap.size:=by omega
 have HK0:=hid hk
 have HB:=hid hB
 clear hB1 hk hB
 go_wp2_with (fail)
 refine bodyPost_ret (results_c1t2 (p:=2) (u:=3) (v:=4) (ty:=28) (by kernel_rfl) _ _ w.heap.size 28 _ (0,0) _ _ _ rfl rfl rfl (HK.blk_alloc (pset4 HK0.out _ _ _ _) _) Tryz.underlying28 rfl (by kernel_rfl)) rfl ?_
 exact ⟨((((HB.out.setCell (p:=⟨w.heap.size,0,none⟩) (Nat.le_refl _) _).setCell (p:=⟨w.heap.size,1,none⟩) (Nat.le_refl _) _).setCell (p:=⟨w.heap.size,2,none⟩) (Nat.le_refl _) _).setCell (p:=⟨w.heap.size,3,none⟩) (Nat.le_refl _) _).alloc (by simp; exact HB.out.size) _,rfl⟩
set_option maxRecDepth 100000 in
set_option maxHeartbeats 2000000 in
theorem formA_ok (w:World) (s:ByteArray) (hs:s.size <= 16384) (hG:Signs w) (hV:IsLv w) (hR:IsRows w) {f:Fm} (h:RdF false (bys s) (.ok f)):Calls Tryz.prog 9 #[.string s] w (RetF w (formA (.ok f))):=by
 obtain ⟨_,_,_,_,_,_,_,hN⟩:=rdF_ok (l:=bys s) hs h rfl
 have hc:=fun (W:World) (hB:Below w.heap.size w W) => (read32 W s false hs (hG.below hB) (hV.turn (hB.block 0 hV.pos)) h).mono (R':=fun E W' => Below W.heap.size W W' /\ ∃ (o8:Int) (nm:ByteArray) (aa:Option Addr) (an ac:Nat) (sa:Option Addr) (sn sc:Nat),E = .returned (.tuple #[.agg #[.int .u8 o8,.string nm,.slice aa an ac,.slice sa sn sc],.int .i64 0,.int .i64 0]) /\ FmV W' W.heap.size f (.agg #[.int .u8 o8,.string nm,.slice aa an ac,.slice sa sn sc])) fun E W' ⟨hB,v,he,hv⟩ => by
  subst he
  have hv0:=hv
  obtain ⟨a,s2,rfl,_⟩:=hv
  obtain ⟨aa,an,ac⟩:=a
  obtain ⟨sa,sn,sc⟩:=s2
  exact ⟨hB,_,_,_,_,_,_,_,_,rfl,hv0⟩
 have hj:=fun (W:World) (lo:Nat) (v:Value) (hB:Below w.heap.size w W) (hv:FmV W lo f v) => right_v (hR.turn (hB.block 1 hR.pos)) hv (by omega)
 unfold formA
 simp only []
 unfold RetW at hj
 obtain ⟨b,hb⟩:∃ b,b = rightF f:=⟨_,rfl⟩
 rw [<- hb] at hj ⊢
 obtain ⟨rr,hrr⟩:∃ rr,rr = (if b = true then An.ok f else .bad 0 3):=⟨_,rfl⟩
 rw [<- hrr]
 have HRR:=hid hrr
 clear hrr
 have HC:=hid hc
 have HJ:=hid hj
 clear hc hj hG hV hR hs h hN hb
 go_enter Tryz.func9,Tryz.ntmps9
 go_wp2_with (fail)
 go_at_call 25
 with_reducible refine (HC.out _ ((Below.refl _ w).alloc (Nat.le_refl _) _)).mono ?_
 rintro E w1 ⟨hB1,o8,nm,aa,an,ac,sa,sn,sc,rfl,hv⟩
 have hk:=(hB1.block w.heap.size (by simp)).trans (HK.blk_new w (.cells #[.int .u8 0,.string ⟨#[]⟩,.slice none 0 0,.slice none 0 0] 28))
 have hB:Below w.heap.size w w1:=((Below.refl _ w).alloc (Nat.le_refl _) (.cells #[.int .u8 0,.string ⟨#[]⟩,.slice none 0 0,.slice none 0 0] 28)).trans (hB1.mono (by simp))
 have hlt:=HK.blk_lt hk
 have hv1:=(hv.turn (lo':=w.heap.size + 1) ⟨by simp,Nat.le_refl _,fun _ _ _ => rfl⟩)
 have hB2:=hB.alloc hB.size (.cells #[.int .u8 o8,.string nm,.slice aa an ac,.slice sa sn sc] 28)
 have hv2:=hv1.turn (W':=w1.alloc (.cells #[.int .u8 o8,.string nm,.slice aa an ac,.slice sa sn sc] 28)) (lo':=w.heap.size + 1) ((⟨Nat.le_refl _,Nat.le_refl _,fun _ _ _ => rfl⟩:Up (w.heap.size + 1) (w.heap.size + 1) w1 w1).alloc _)
 have hcall:=HJ.out _ _ _ hB2 hv2
 have HCC:=hid hcall
 have HK0:=hid (HK.blk_alloc hk (.cells #[.int .u8 o8,.string nm,.slice aa an ac,.slice sa sn sc] 28))
 have HB:=hid hB2
 have HV:=hid hv2
 have HN:=hid (HK.blk_new w1 (.cells #[.int .u8 o8,.string nm,.slice aa an ac,.slice sa sn sc] 28))
 have HLT:=hid hlt
 clear hB1 hk hB hv hv1 hB2 hv2 hcall
 go_wp2_with (fail)
 go_at_call 27
 with_reducible refine HCC.out.mono ?_
 rintro E w2 ⟨rfl,hB2⟩
 have hk:=(hB2.block w.heap.size (HK.blk_lt HK0.out)).trans HK0.out
 have hx:=(hB2.block w1.heap.size (HK.blk_lt HN.out)).trans HN.out
 have c0:=HK.blk_cell hk 0
 have c1:=HK.blk_cell hk 1
 have c2:=HK.blk_cell hk 2
 have c3:=HK.blk_cell hk 3
 have f0:=HK.blk_frozen hk 0
 have f1:=HK.blk_frozen hk 1
 have f2:=HK.blk_frozen hk 2
 have f3:=HK.blk_frozen hk 3
 have d0:=HK.blk_cell hx 0
 have d1:=HK.blk_cell hx 1
 have d2:=HK.blk_cell hx 2
 have d3:=HK.blk_cell hx 3
 have hB:=HB.out.trans (hB2.mono HB.out.size)
 have HB3:=hid hB
 have HK1:=hid hk
 have HV2:=hid (HV.out.turn (W':=w2) (lo':=w.heap.size + 1) ((⟨Nat.le_refl _,Nat.le_refl _,fun _ _ _ => rfl⟩:Up (w.heap.size + 1) (w.heap.size + 1) (w1.alloc (.cells #[.int .u8 o8,.string nm,.slice aa an ac,.slice sa sn sc] 28)) (w1.alloc (.cells #[.int .u8 o8,.string nm,.slice aa an ac,.slice sa sn sc] 28))).below hB2))
 clear hB2 hk hx hB
 have hne:¬ w1.heap.size = w.heap.size:=by have:=HLT.out; omega
 cases b
 ·go_wp2_with (fail)
  refine bodyPost_ret (results_c1t2 (p:=2) (u:=3) (v:=4) (ty:=28) (by kernel_rfl) _ _ w.heap.size 28 _ (0,0) _ _ _ rfl rfl rfl (pset4 HK1.out _ _ _ _) Tryz.underlying28 rfl (by kernel_rfl)) rfl ?_
  rw [show rr = .bad 0 3 from HRR.out]
  exact ⟨(((HB3.out.setCell (p:=⟨w.heap.size,0,none⟩) (Nat.le_refl _) _).setCell (p:=⟨w.heap.size,1,none⟩) (Nat.le_refl _) _).setCell (p:=⟨w.heap.size,2,none⟩) (Nat.le_refl _) _).setCell (p:=⟨w.heap.size,3,none⟩) (Nat.le_refl _) _,rfl⟩
 ·go_wp2_with (fail)
  refine bodyPost_ret (results_c1t2 (p:=2) (u:=3) (v:=4) (ty:=28) (by kernel_rfl) _ _ w.heap.size 28 _ (0,0) _ _ _ rfl rfl rfl (pset4 HK1.out _ _ _ _) Tryz.underlying28 rfl (by kernel_rfl)) rfl ?_
  rw [show rr = .ok f from HRR.out]
  refine ⟨(((HB3.out.setCell (p:=⟨w.heap.size,0,none⟩) (Nat.le_refl _) _).setCell (p:=⟨w.heap.size,1,none⟩) (Nat.le_refl _) _).setCell (p:=⟨w.heap.size,2,none⟩) (Nat.le_refl _) _).setCell (p:=⟨w.heap.size,3,none⟩) (Nat.le_refl _) _,_,rfl,?_⟩
  exact HV2.out.turn (((((⟨Nat.le_succ _,Nat.le_refl _,fun _ _ _ => rfl⟩:Up (w.heap.size + 1) w.heap.size w2 w2).set (a:=⟨w.heap.size,0,none⟩) (Nat.lt_succ_self _) _).set (a:=⟨w.heap.size,1,none⟩) (Nat.lt_succ_self _) _).set (a:=⟨w.heap.size,2,none⟩) (Nat.lt_succ_self _) _).set (a:=⟨w.heap.size,3,none⟩) (Nat.lt_succ_self _) _)
theorem form_call (w:World) (s:ByteArray) (hs:s.size <= 16384) (hG:Signs w) (hV:IsLv w) (hR:IsRows w) {r:An Fm} (h:RdF false (bys s) r):Calls Tryz.prog 9 #[.string s] w (RetF w (formA r)):=by
 cases r with
 | ok f => exact formA_ok w s hs hG hV hR h
 | bad p e => exact formA_bad w s hs hG hV h
set_option maxRecDepth 100000 in
set_option maxHeartbeats 2000000 in
theorem schA_bad (w:World) (s:ByteArray) (hs:s.size <= 16384) (hG:Signs w) (hV:IsLv w) {p:Nat} {e:Int} (h:RdF true (bys s) (.bad p e)):Calls Tryz.prog 12 #[.string s] w (RetF w (.bad p e)):=by
 have he:=(rdF_bad (l:=bys s) hs h rfl).1
 have hc:=fun (W:World) (hB:Below w.heap.size w W) => read32 W s true hs (hG.below hB) (hV.turn (hB.block 0 hV.pos)) h
 unfold RetF at hc ⊢
 simp only [] at hc ⊢
 have he1:(e == 0) = false:=by simp [he]
 have HC:=hid hc
 clear hc hG hV hs h he
 go_enter Tryz.func12,Tryz.ntmps12
 go_wp2_with (fail)
 go_at_call 25
 with_reducible refine (HC.out _ ((Below.refl _ w).alloc (Nat.le_refl _) _)).mono ?_
 rintro E w1 ⟨hB1,rfl⟩
 have hk:=(hB1.block w.heap.size (by simp)).trans (HK.blk_new w (.cells #[.int .u8 0,.string ⟨#[]⟩,.slice none 0 0,.slice none 0 0] 28))
 have c0:=HK.blk_cell hk 0
 have c1:=HK.blk_cell hk 1
 have c2:=HK.blk_cell hk 2
 have c3:=HK.blk_cell hk 3
 have f0:=HK.blk_frozen hk 0
 have f1:=HK.blk_frozen hk 1
 have f2:=HK.blk_frozen hk 2
 have f3:=HK.blk_frozen hk 3
 have hB:Below w.heap.size w w1:=((Below.refl _ w).alloc (Nat.le_refl _) (.cells #[.int .u8 0,.string ⟨#[]⟩,.slice none 0 0,.slice none 0 0] 28)).trans (hB1.mono (by simp))
 have hlt:=HK.blk_lt hk
 have hne:¬ w1.heap.size = w.heap.size:=by omega
 have HK0:=hid hk
 have HB:=hid hB
 clear hB1 hk hB
 go_wp2_with (fail)
 refine bodyPost_ret (results_c1t2 (p:=2) (u:=3) (v:=4) (ty:=28) (by kernel_rfl) _ _ w.heap.size 28 _ (0,0) _ _ _ rfl rfl rfl (HK.blk_alloc (pset4 HK0.out _ _ _ _) _) Tryz.underlying28 rfl (by kernel_rfl)) rfl ?_
 exact ⟨((((HB.out.setCell (p:=⟨w.heap.size,0,none⟩) (Nat.le_refl _) _).setCell (p:=⟨w.heap.size,1,none⟩) (Nat.le_refl _) _).setCell (p:=⟨w.heap.size,2,none⟩) (Nat.le_refl _) _).setCell (p:=⟨w.heap.size,3,none⟩) (Nat.le_refl _) _).alloc (by simp; exact HB.out.size) _,rfl⟩
set_option maxRecDepth 100000 in
set_option maxHeartbeats 2000000 in
theorem schA_ok (w:World) (s:ByteArray) (hs:s.size <= 16384) (hG:Signs w) (hV:IsLv w) (hR:IsRows w) {f:Fm} (h:RdF true (bys s) (.ok f)):Calls Tryz.prog 12 #[.string s] w (RetF w (schA (.ok f))):=by
 obtain ⟨_,_,_,_,_,_,_,hN⟩:=rdF_ok (l:=bys s) hs h rfl
 have hc:=fun (W:World) (hB:Below w.heap.size w W) => (read32 W s true hs (hG.below hB) (hV.turn (hB.block 0 hV.pos)) h).mono (R':=fun E W' => Below W.heap.size W W' /\ ∃ (o8:Int) (nm:ByteArray) (aa:Option Addr) (an ac:Nat) (sa:Option Addr) (sn sc:Nat),E = .returned (.tuple #[.agg #[.int .u8 o8,.string nm,.slice aa an ac,.slice sa sn sc],.int .i64 0,.int .i64 0]) /\ FmV W' W.heap.size f (.agg #[.int .u8 o8,.string nm,.slice aa an ac,.slice sa sn sc])) fun E W' ⟨hB,v,he,hv⟩ => by
  subst he
  have hv0:=hv
  obtain ⟨a,s2,rfl,_⟩:=hv
  obtain ⟨aa,an,ac⟩:=a
  obtain ⟨sa,sn,sc⟩:=s2
  exact ⟨hB,_,_,_,_,_,_,_,_,rfl,hv0⟩
 have hj:=fun (W:World) (lo:Nat) (v:Value) (hB:Below w.heap.size w W) (hv:FmV W lo f v) => sch_v (hR.turn (hB.block 1 hR.pos)) hv (by omega)
 unfold schA
 simp only []
 unfold RetW at hj
 obtain ⟨b,hb⟩:∃ b,b = schF f:=⟨_,rfl⟩
 rw [<- hb] at hj ⊢
 obtain ⟨rr,hrr⟩:∃ rr,rr = (if b = true then An.ok f else .bad 0 3):=⟨_,rfl⟩
 rw [<- hrr]
 have HRR:=hid hrr
 clear hrr
 have HC:=hid hc
 have HJ:=hid hj
 clear hc hj hG hV hR hs h hN hb
 go_enter Tryz.func12,Tryz.ntmps12
 go_wp2_with (fail)
 go_at_call 25
 with_reducible refine (HC.out _ ((Below.refl _ w).alloc (Nat.le_refl _) _)).mono ?_
 rintro E w1 ⟨hB1,o8,nm,aa,an,ac,sa,sn,sc,rfl,hv⟩
 have hk:=(hB1.block w.heap.size (by simp)).trans (HK.blk_new w (.cells #[.int .u8 0,.string ⟨#[]⟩,.slice none 0 0,.slice none 0 0] 28))
 have hB:Below w.heap.size w w1:=((Below.refl _ w).alloc (Nat.le_refl _) (.cells #[.int .u8 0,.string ⟨#[]⟩,.slice none 0 0,.slice none 0 0] 28)).trans (hB1.mono (by simp))
 have hlt:=HK.blk_lt hk
 have hv1:=(hv.turn (lo':=w.heap.size + 1) ⟨by simp,Nat.le_refl _,fun _ _ _ => rfl⟩)
 have hB2:=hB.alloc hB.size (.cells #[.int .u8 o8,.string nm,.slice aa an ac,.slice sa sn sc] 28)
 have hv2:=hv1.turn (W':=w1.alloc (.cells #[.int .u8 o8,.string nm,.slice aa an ac,.slice sa sn sc] 28)) (lo':=w.heap.size + 1) ((⟨Nat.le_refl _,Nat.le_refl _,fun _ _ _ => rfl⟩:Up (w.heap.size + 1) (w.heap.size + 1) w1 w1).alloc _)
 have hcall:=HJ.out _ _ _ hB2 hv2
 have HCC:=hid hcall
 have HK0:=hid (HK.blk_alloc hk (.cells #[.int .u8 o8,.string nm,.slice aa an ac,.slice sa sn sc] 28))
 have HB:=hid hB2
 have HV:=hid hv2
 have HN:=hid (HK.blk_new w1 (.cells #[.int .u8 o8,.string nm,.slice aa an ac,.slice sa sn sc] 28))
 have HLT:=hid hlt
 clear hB1 hk hB hv hv1 hB2 hv2 hcall
 go_wp2_with (fail)
 go_at_call 29
 with_reducible refine HCC.out.mono ?_
 rintro E w2 ⟨rfl,hB2⟩
 have hk:=(hB2.block w.heap.size (HK.blk_lt HK0.out)).trans HK0.out
 have hx:=(hB2.block w1.heap.size (HK.blk_lt HN.out)).trans HN.out
 have c0:=HK.blk_cell hk 0
 have c1:=HK.blk_cell hk 1
 have c2:=HK.blk_cell hk 2
 have c3:=HK.blk_cell hk 3
 have f0:=HK.blk_frozen hk 0
 have f1:=HK.blk_frozen hk 1
 have f2:=HK.blk_frozen hk 2
 have f3:=HK.blk_frozen hk 3
 have d0:=HK.blk_cell hx 0
 have d1:=HK.blk_cell hx 1
 have d2:=HK.blk_cell hx 2
 have d3:=HK.blk_cell hx 3
 have hB:=HB.out.trans (hB2.mono HB.out.size)
 have HB3:=hid hB
 have HK1:=hid hk
 have HV2:=hid (HV.out.turn (W':=w2) (lo':=w.heap.size + 1) ((⟨Nat.le_refl _,Nat.le_refl _,fun _ _ _ => rfl⟩:Up (w.heap.size + 1) (w.heap.size + 1) (w1.alloc (.cells #[.int .u8 o8,.string nm,.slice aa an ac,.slice sa sn sc] 28)) (w1.alloc (.cells #[.int .u8 o8,.string nm,.slice aa an ac,.slice sa sn sc] 28))).below hB2))
 clear hB2 hk hx hB
 have hne:¬ w1.heap.size = w.heap.size:=by have:=HLT.out; omega
 cases b
 ·go_wp2_with (fail)
  refine bodyPost_ret (results_c1t2 (p:=2) (u:=3) (v:=4) (ty:=28) (by kernel_rfl) _ _ w.heap.size 28 _ (0,0) _ _ _ rfl rfl rfl (pset4 HK1.out _ _ _ _) Tryz.underlying28 rfl (by kernel_rfl)) rfl ?_
  rw [show rr = .bad 0 3 from HRR.out]
  exact ⟨(((HB3.out.setCell (p:=⟨w.heap.size,0,none⟩) (Nat.le_refl _) _).setCell (p:=⟨w.heap.size,1,none⟩) (Nat.le_refl _) _).setCell (p:=⟨w.heap.size,2,none⟩) (Nat.le_refl _) _).setCell (p:=⟨w.heap.size,3,none⟩) (Nat.le_refl _) _,rfl⟩
 ·go_wp2_with (fail)
  refine bodyPost_ret (results_c1t2 (p:=2) (u:=3) (v:=4) (ty:=28) (by kernel_rfl) _ _ w.heap.size 28 _ (0,0) _ _ _ rfl rfl rfl (pset4 HK1.out _ _ _ _) Tryz.underlying28 rfl (by kernel_rfl)) rfl ?_
  rw [show rr = .ok f from HRR.out]
  refine ⟨(((HB3.out.setCell (p:=⟨w.heap.size,0,none⟩) (Nat.le_refl _) _).setCell (p:=⟨w.heap.size,1,none⟩) (Nat.le_refl _) _).setCell (p:=⟨w.heap.size,2,none⟩) (Nat.le_refl _) _).setCell (p:=⟨w.heap.size,3,none⟩) (Nat.le_refl _) _,_,rfl,?_⟩
  exact HV2.out.turn (((((⟨Nat.le_succ _,Nat.le_refl _,fun _ _ _ => rfl⟩:Up (w.heap.size + 1) w.heap.size w2 w2).set (a:=⟨w.heap.size,0,none⟩) (Nat.lt_succ_self _) _).set (a:=⟨w.heap.size,1,none⟩) (Nat.lt_succ_self _) _).set (a:=⟨w.heap.size,2,none⟩) (Nat.lt_succ_self _) _).set (a:=⟨w.heap.size,3,none⟩) (Nat.lt_succ_self _) _)
theorem sch_call (w:World) (s:ByteArray) (hs:s.size <= 16384) (hG:Signs w) (hV:IsLv w) (hR:IsRows w) {r:An Fm} (h:RdF true (bys s) r):Calls Tryz.prog 12 #[.string s] w (RetF w (schA r)):=by
 cases r with
 | ok f => exact schA_ok w s hs hG hV hR h
 | bad p e => exact schA_bad w s hs hG hV h
end Go.Proofs.YtdobflpbkfkmgaaGreatDoor
