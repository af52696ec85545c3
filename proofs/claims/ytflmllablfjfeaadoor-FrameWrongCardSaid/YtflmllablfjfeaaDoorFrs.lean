import Derived.Test.YtflmllablfjfeaaDoorFrq
import Derived.Test.YtflmllablfjfeaaDoorFrr
import Derived.Laws.EntriesVeiled
namespace Go.Proofs.YtflmllablfjfeaaDoor
open Go.RowKit Go.HK Go.FR Lib
set_option linter.unusedVariables false
set_option linter.unusedSimpArgs false
set_option linter.unusedSectionVars false
def gsK (fs:List (ByteArray × Int × Int)):Nat -> List (ByteArray × Value)
 | 0 => []
 | k + 1 => gput (gsK fs k) (nmK fs k) (.int .i64 (fs.getD k (⟨#[]⟩,0,0)).2.2)
theorem gget_put (gs:List (ByteArray × Value)) (s t:ByteArray) (v:Value):gget (gput gs s v) t = if t = s then some v else gget gs t:=by
 induction gs with
 | nil => simp only [gput,gget,gfind]; by_cases h:t = s <;> simp [h]
 | cons p r ih =>
  unfold gput
  by_cases h:s = p.1
  ·rw [if_pos h]
   unfold gget gfind
   by_cases h2:t = p.1
   ·have:t = s:=by rw [h2,h]
    simp [h2,h]
   ·have:¬ t = s:=by rw [h]; exact h2
    simp [h2,this]
  ·rw [if_neg h]
   unfold gget at ih ⊢
   unfold gfind
   by_cases h2:t = p.1
   ·have:¬ t = s:=fun e => h (by rw [<- e,h2])
    simp only [h2,if_true]
    rw [if_neg (by rw [<- h2]; exact this)]
   ·simp only [h2,if_false]
    rw [gfind_add t (gput r s v) (0 + 1),gfind_add t r (0 + 1),Option.map_map,Option.map_map]
    exact ih
theorem gsK_ok {force:Bool} {rel:List Nat} {fs:List (ByteArray × Int × Int)}:∀ {k:Nat},factsK force rel fs k = true -> GOk rel.length (gsK fs k)
 | 0,_ => fun s v h => by simp [gsK,gget,gfind] at h
 | k + 1,h => by
  unfold factsK at h
  rw [Bool.and_eq_true] at h
  have ih:=gsK_ok h.1
  have h2:=h.2
  unfold factB at h2
  simp only [Bool.and_eq_true,decide_eq_true_iff] at h2
  obtain ⟨⟨_,⟨⟨_,h3⟩,h4⟩⟩,_⟩:=h2
  intro s v hv
  unfold gsK at hv
  rw [gget_put] at hv
  split at hv
  ·cases hv
   exact ⟨(fs.getD k (⟨#[]⟩,0,0)).2.2.toNat,by omega,by rw [Int.toNat_of_nonneg h3]⟩
  ·exact ih s v hv
def RetAt (w:World) (V rk lk:Bool) (v:Nat) (e:Ending) (w':World):Prop :=
 Below w.heap.size w w' /\ e = .returned (.tuple #[.int .i64 ((if (V && rk && !lk) = true then v else 0:Nat):Int),.int .i64 (if (V && rk) = true then (if lk = true then 6 else 0) else 2)])
structure LpI (w:World) (M:Nat) (mo fo:Obj) (gs:List (ByteArray × Value)) (wr:World):Prop where
 hm:∃ es cl,wr.heap[M]? = some (.map es cl) /\ MapIs es.toList gs
 hb:wr.heap[M + 1]? = some (.cells #[.map (some M)] 76 (0,0))
 mo:wr.heap[w.heap.size]? = some mo
 fo:wr.heap[w.heap.size + 1]? = some fo
 bl:Below w.heap.size w wr
theorem LpI.put {w:World} {M:Nat} {mo fo:Obj} {gs gs':List (ByteArray × Value)} {wr:World} (h:LpI w M mo fo gs wr) (ob:Obj) {es:Array MapEntry} {cl:Nat} (hM:w.heap.size + 2 <= M) (hg:MapIs es.toList gs'):LpI w M mo fo gs' ((wr.alloc ob).putObj M (.map es cl)):=by
 obtain ⟨es0,cl0,hm,_⟩:=h.hm
 have hlt:M < (wr.alloc ob).heap.size:=by have:=HK.blk_lt hm; simp; omega
 have ot:∀ (b:Nat) (o:Obj),wr.heap[b]? = some o -> b ≠ M -> ((wr.alloc ob).putObj M (.map es cl)).heap[b]? = some o:=fun b o hb hne => by
  rw [World.putObj_heap_other (by omega)]
  exact HK.blk_alloc hb ob
 refine ⟨⟨es,cl,World.putObj_heap_same hlt,hg⟩,ot _ _ h.hb (by omega),ot _ _ h.mo (by omega),ot _ _ h.fo (by omega),?_⟩
 have h1:=h.bl.alloc h.bl.size ob
 exact ⟨h1.os,h1.tape,h1.output,by simpa using h1.size,fun k hk => (World.putObj_heap_other (by omega)).trans (h1.block k hk)⟩
set_option maxRecDepth 100000 in
set_option maxHeartbeats 4000000 in
theorem at_yes (w:World) (kind:Nat) (size loop:Int) (g o n c:Nat) (fs us bs:SL) (rel:List Nat) (facts:List (ByteArray × Int × Int)) (f:Fm) (av sv:SL) (hk:kind = 3 ∨ kind = 4) (hn:rel.length = n) (hok:FrOk rel) (hR:IsR w g o rel) (hgw:g < w.heap.size) (hF:IsFz (fun k => k < w.heap.size) w fs facts) (hl:fs.n <= 1000000000)
  (hV:∀ W,Below w.heap.size w W -> Calls Tryd.prog 18 #[.agg #[.int .u8 (kind:Int),.int .i64 size,.slice (some ⟨g,o,none⟩) n c,.int .i64 loop,fs.v,us.v,bs.v]] W (RetW W true)) (hfk:factsK (decide (kind = 3)) rel facts facts.length = true)
  (hrw:IsRows w) (hN:nodesF f <= 10000) (hT:IsTs (fun k => k < w.heap.size) w av f.args) (hS:IsFs (fun k => k < w.heap.size) w sv f.subs) (hop:f.op < 256) (hz:f.name.size <= maxLen) :
  Calls Tryd.prog 16 #[.agg #[.int .u8 (kind:Int),.int .i64 size,.slice (some ⟨g,o,none⟩) n c,.int .i64 loop,fs.v,us.v,bs.v],.agg #[.int .u8 (f.op:Int),.string f.name,av.v,sv.v]] w
   (RetAt w true (rightK kind f) (lackF (lookG (gsK facts facts.length)) f) (semF (decide (kind = 3)) rel (lookG (gsK facts facts.length)) f)):=by
 have hgok:GOk rel.length (gsK facts facts.length):=gsK_ok hfk
 have hfr:∀ W,Below w.heap.size w W -> Calls Tryd.prog 37 #[.int .u8 (kind:Int),.agg #[.int .u8 (f.op:Int),.string f.name,av.v,sv.v]] W (RetW W (rightK kind f)):=fun W hB =>
  fright_call W kind hk f av sv (hrw.turn (hB.block 0 hrw.pos)) hN (hT.turn fun k hk => ⟨Nat.lt_of_lt_of_le hk hB.size,hB.block k hk⟩) (hS.turn fun k hk => ⟨Nat.lt_of_lt_of_le hk hB.size,hB.block k hk⟩) hop hz
 have hat:=at_ok kind hk rel hok (gsK facts facts.length) hgok f
 have hops:rightK kind f = true -> opsF kind f = true:=fun h => by unfold rightK at h; rw [Bool.and_eq_true] at h; exact h.2
 obtain ⟨rk,hrk⟩:∃ rk,rk = rightK kind f:=⟨_,rfl⟩
 obtain ⟨lk,hlk⟩:∃ lk,lk = lackF (lookG (gsK facts facts.length)) f:=⟨_,rfl⟩
 obtain ⟨val,hval⟩:∃ val,val = semF (decide (kind = 3)) rel (lookG (gsK facts facts.length)) f:=⟨_,rfl⟩
 rw [<- hrk] at hfr hops ⊢
 rw [<- hlk,<- hval]
 unfold AtOk at hat
 rw [<- hlk,<- hval] at hat
 obtain ⟨fop,hfop⟩:∃ fop,fop = f.op:=⟨_,rfl⟩
 obtain ⟨fnm,hfnm⟩:∃ fnm,fnm = f.name:=⟨_,rfl⟩
 rw [<- hfop,<- hfnm] at hat hfr ⊢
 obtain ⟨fa,fn,fc⟩:=fs
 obtain ⟨ua,un,uc⟩:=us
 obtain ⟨ba,bn,bc⟩:=bs
 obtain ⟨aa,an,ac⟩:=av
 obtain ⟨sa,sn,sc⟩:=sv
 simp only [SL.v] at hV hfr hl ⊢
 unfold RetW at hV hfr
 obtain ⟨mo,hmo⟩:∃ mo,mo = Obj.cells #[.int .u8 (kind:Int),.int .i64 size,.slice (some ⟨g,o,none⟩) n c,.int .i64 loop,.slice fa fn fc,.slice ua un uc,.slice ba bn bc] 30:=⟨_,rfl⟩
 obtain ⟨fo,hfo⟩:∃ fo,fo = Obj.cells #[.int .u8 (fop:Int),.string fnm,.slice aa an ac,.slice sa sn sc] 35:=⟨_,rfl⟩
 have hb2:Below w.heap.size w ((w.alloc mo).alloc fo):=((Below.refl _ w).alloc (Nat.le_refl _) _).alloc (by simp) _
 have hV2:=hV ((w.alloc mo).alloc fo) hb2
 have HFR:Hid (∀ W,Below ((w.alloc mo).alloc fo).heap.size ((w.alloc mo).alloc fo) W -> Calls Tryd.prog 37 #[.int .u8 (kind:Int),.agg #[.int .u8 (fop:Int),.string fnm,.slice aa an ac,.slice sa sn sc]] W fun e w' => e = .returned (.bool rk) /\ Below W.heap.size W w'):=hid fun W h => hfr W (hb2.trans (h.mono (by simp; omega)))
 have HBM:Hid (∀ W,Below ((w.alloc mo).alloc fo).heap.size ((w.alloc mo).alloc fo) W -> Below w.heap.size w W /\ W.heap[w.heap.size]? = some mo /\ W.heap[w.heap.size + 1]? = some fo):=hid fun W h => by
  refine ⟨hb2.trans (h.mono (by simp; omega)),(h.block _ (by simp; omega)).trans (HK.blk_alloc (HK.blk_new w mo) fo),(h.block _ (by simp)).trans ?_⟩
  have:=HK.blk_new (w.alloc mo) fo
  simpa using this
 have HMO:=hid hmo
 have HFO:=hid hfo
 rw [hmo,hfo] at hV2
 have HV:=hid hV2
 have HAT:=hid hat
 have HOPS:=hid hops
 have HF:=hid hF
 have HS:=hid hS
 have HN:=hid hn
 have HR:=hid hR
 have HFN:Hid (facts.length = fn):=hid hF.1.symm
 have HGW:=hid hgw
 clear hgok hfr hat hops hrk hlk hval hV hV2 hF hS hT hR hn hgw hop hz hfk hmo hfo hb2 hrw hN hfop hfnm
 cases rk
 ·go_enter Tryd.func16,Tryd.ntmps16
  go_wp2_with (first
   | (go_at_call 18; ((with_reducible refine HV.out.mono ?_); rintro e w1 ⟨rfl,hB1⟩; rw [<- HMO.out,<- HFO.out] at hB1; have hm:=HBM.out _ hB1; rw [HMO.out,HFO.out] at hm; have cf:=fun i => HK.blk_cell hm.2.2 i; have f0:=cf 0; have f1:=cf 1; have f2:=cf 2; have f3:=cf 3; have m0:=HK.blk_cell hm.2.1 0; have hr:=HFR.out _ hB1; have HB1:=hid hB1; have HR1:=hid hr; clear hm cf hr hB1))
   | (go_at_call 37; ((with_reducible refine HR1.out.mono ?_); rintro e w2 ⟨rfl,hB2⟩)))
  go_ret2
  exact ⟨((HBM.out _ HB1.out).1).trans (hB2.mono (HBM.out _ HB1.out).1.size),rfl⟩
 ·go_enter Tryd.func16,Tryd.ntmps16
  go_upto_region 3 with (first
   | (go_at_call 18; ((with_reducible refine HV.out.mono ?_); rintro e w1 ⟨rfl,hB1⟩; rw [<- HMO.out,<- HFO.out] at hB1; have hm:=HBM.out _ hB1; rw [HMO.out,HFO.out] at hm; have cf:=fun i => HK.blk_cell hm.2.2 i; have f0:=cf 0; have f1:=cf 1; have f2:=cf 2; have f3:=cf 3; have m0:=HK.blk_cell hm.2.1 0; have hr:=HFR.out _ hB1; have HB1:=hid hB1; have HR1:=hid hr; clear hm cf hr hB1))
   | (go_at_call 37; ((with_reducible refine HR1.out.mono ?_); rintro e w2 ⟨rfl,hB2⟩)))
  have hb2:=HB1.out.trans (hB2.mono HB1.out.size)
  have hm2:=HBM.out _ hb2
  have HMS:Hid (w.heap.size + 2 <= w2.heap.size):=hid (by have:=hb2.size; simpa using this)
  have hI0:LpI w w2.heap.size mo fo [] ((w2.alloc (.map #[] 0)).alloc (.cells #[.map (some w2.heap.size)] 76)):=by
   refine ⟨⟨#[],0,HK.blk_alloc (HK.blk_new w2 _) _,rfl⟩,?_,HK.blk_alloc (HK.blk_alloc hm2.2.1 _) _,HK.blk_alloc (HK.blk_alloc hm2.2.2 _) _,(hm2.1.alloc hm2.1.size _).alloc (by have:=hm2.1.size; simp; omega) _⟩
   have:=HK.blk_new (w2.alloc (.map #[] 0)) (.cells #[.map (some w2.heap.size)] 76)
   simpa using this
  have hmo0:=hI0.mo
  rw [HMO.out] at hmo0
  have m4:=HK.blk_cell hmo0 4
  have HI0:=hid hI0
  clear hb2 hm2 hI0 hmo0 hB2 f0 f1 f2 f3 m0 HR1 HB1
  have hmm:=@run_makeMap Tryd.prog
  go_wp2_with (fail)
  clear m4 hmm
  go_loopw [26] (fun i wr => ∃ k:Nat,k <= fn /\ i = .int .i64 k /\ LpI w w2.heap.size mo fo (gsK facts k) wr) (fun i _ => fn - (intOf i).toNat)
  case atStart => exact ⟨0,by omega,rfl,HI0.out⟩
  case round =>
   obtain ⟨k,hk,rfl,hI⟩:=hrel
   have HI:=hid hI
   by_cases hkn:(k:Int) < (fn:Int)
   ·have b0:(0:Int) <= (k:Int):=by omega
    obtain ⟨⟨s,ar,tr⟩,hf⟩:∃ f,facts[k]? = some f:=⟨_,List.getElem?_eq_getElem (by rw [HFN.out]; omega)⟩
    obtain ⟨fg,fq,hfa⟩:=HF.out.pos (show 0 < fn by omega)
    simp only [] at hfa
    subst hfa
    have hFr:=HF.out.turn (T:=fun k => k < wr.heap.size) (fun k hk => ⟨Nat.lt_of_lt_of_le hk hI.bl.size,hI.bl.block k hk⟩)
    obtain ⟨c0,c1,c2,hz⟩:=hFr.at hf
    simp only [] at c0 c1 c2 hz
    have hgd:facts.getD k (⟨#[]⟩,0,0) = (s,ar,tr):=by rw [List.getD_eq_getElem?_getD,hf]; rfl
    obtain ⟨es,cl,hm,hgs⟩:=hI.hm
    have y0:=HK.blk_cell (HK.blk_alloc hI.hb (.cells #[.string s,.int .i64 ar,.int .i64 tr] 46)) 0
    have x0:=HK.blk_cell (HK.blk_new wr (.cells #[.string s,.int .i64 ar,.int .i64 tr] 46)) 0
    have x2:=HK.blk_cell (HK.blk_new wr (.cells #[.string s,.int .i64 ar,.int .i64 tr] 46)) 2
    obtain ⟨es',cl',hup,hgs'⟩:=run_mapUpdate_str (P:=Tryd.prog) s (.int .i64 tr) Tryd.underlying76 Tryd.underlying9 (HK.blk_alloc hm (.cells #[.string s,.int .i64 ar,.int .i64 tr] 46)) hgs
    have HNX:Hid (LpI w w2.heap.size mo fo (gsK facts (k + 1)) ((wr.alloc (.cells #[.string s,.int .i64 ar,.int .i64 tr] 46)).putObj w2.heap.size (.map es' cl'))):=hid (hI.put _ HMS.out (by unfold gsK nmK; rw [hgd]; exact hgs'))
    clear hI hf hFr hz hgd hm hgs hgs'
    go_wp2_with (fail)
    go_roundw
    case rel => exact ⟨k + 1,by omega,by go_num,HNX.out⟩
    case measure => simp [intOf]; omega
   ·obtain rfl:k = fn:=by omega
    obtain ⟨W4,hW4⟩:∃ W4,W4 = (wr.alloc (.cells #[.bool false] 4)).alloc (.cells #[.func (.func 39) #[] #[.pointer (some ⟨wr.heap.size + 1,0,none⟩),.pointer (some ⟨w2.heap.size + 1,0,none⟩),.pointer (some ⟨wr.heap.size,0,none⟩),.pointer (some ⟨w.heap.size,0,none⟩)]] 77):=⟨_,rfl⟩
    have hb4:Below w.heap.size w W4:=by rw [hW4]; exact (hI.bl.alloc hI.bl.size _).alloc (by have:=hI.bl.size; simp; omega) _
    have up4:∀ (b:Nat) (o:Obj),wr.heap[b]? = some o -> W4.heap[b]? = some o:=fun b o h => by rw [hW4]; exact HK.blk_alloc (HK.blk_alloc h _) _
    have hMM:W4.heap[wr.heap.size]? = some (.cells #[.bool false] 4):=by rw [hW4]; exact HK.blk_alloc (HK.blk_new wr _) _
    have hAA:W4.heap[wr.heap.size + 1]? = some (.cells #[.func (.func 39) #[] #[.pointer (some ⟨wr.heap.size + 1,0,none⟩),.pointer (some ⟨w2.heap.size + 1,0,none⟩),.pointer (some ⟨wr.heap.size,0,none⟩),.pointer (some ⟨w.heap.size,0,none⟩)]] 77):=by
     rw [hW4]
     have:=HK.blk_new (wr.alloc (.cells #[.bool false] 4)) (.cells #[.func (.func 39) #[] #[.pointer (some ⟨wr.heap.size + 1,0,none⟩),.pointer (some ⟨w2.heap.size + 1,0,none⟩),.pointer (some ⟨wr.heap.size,0,none⟩),.pointer (some ⟨w.heap.size,0,none⟩)]] 77)
     simpa using this
    have hfo:=up4 _ _ hI.fo
    rw [HFO.out] at hfo
    have hmo:=up4 _ _ hI.mo
    rw [HMO.out] at hmo
    have hws:=HK.blk_lt hI.hb
    have hwm:=HK.blk_lt hI.mo
    have hae:AE (wr.heap.size + 1) (w2.heap.size + 1) wr.heap.size w.heap.size w2.heap.size g o n c kind (.int .i64 size) (.int .i64 loop) (.slice fa k fc) (.slice ua un uc) (.slice ba bn bc) rel (gsK facts facts.length) W4:=by
     obtain ⟨es,cl,hm,hgs⟩:=hI.hm
     have hz:=hI.bl.size
     have hgw:=HGW.out
     exact ⟨hAA,up4 _ _ hI.hb,⟨es,cl,up4 _ _ hm,by rw [HFN.out]; exact hgs⟩,hmo,fun i x hx => (hb4.cell (p:=⟨g,o + i,none⟩) hgw).trans (HR.out i x hx),⟨by omega,by omega,by omega,by omega,by omega⟩⟩
    have hcl:=HAT.out W4 (wr.heap.size + 1) (w2.heap.size + 1) wr.heap.size w.heap.size w2.heap.size g o n c w.heap.size (.int .i64 size) (.int .i64 loop) (.slice fa k fc) (.slice ua un uc) (.slice ba bn bc) false ⟨aa,an,ac⟩ ⟨sa,sn,sc⟩ hae hMM HN.out hb4.size (HS.out.turn fun j hj => ⟨⟨by omega,hj⟩,hb4.block j hj⟩) (HOPS.out True.intro)
    unfold RetA at hcl
    rw [Bool.false_or] at hcl
    simp only [SL.v] at hcl
    have ca:=HK.blk_cell hAA 0
    have e0:=HK.blk_cell hfo 0
    have e1:=HK.blk_cell hfo 1
    have e2:=HK.blk_cell hfo 2
    have e3:=HK.blk_cell hfo 3
    rw [hW4] at hcl ca e0 e1 e2 e3
    have HCL:=hid hcl
    have HB4:Hid (∀ W,FJ wr.heap.size W4 W -> Below w.heap.size w W):=hid fun W h => hb4.trans (h.below hb4.size fun j hj => by rw [hj]; exact hI.bl.size)
    rw [hW4] at HB4
    clear hcl hW4 hb4 up4 hMM hAA hfo hmo hae hI
    cases lk
    ·go_wp2_with (go_at_call 39; ((with_reducible refine HCL.out.mono ?_); rintro e w5 ⟨rfl,hJ5,hm5⟩; have c5:=HK.blk_cell hm5 0))
     go_ret2
     exact ⟨HB4.out _ hJ5,rfl⟩
    ·go_wp2_with (go_at_call 39; ((with_reducible refine HCL.out.mono ?_); rintro e w5 ⟨rfl,hJ5,hm5⟩; have c5:=HK.blk_cell hm5 0))
     go_ret2
     exact ⟨HB4.out _ hJ5,rfl⟩
end Go.Proofs.YtflmllablfjfeaaDoor
