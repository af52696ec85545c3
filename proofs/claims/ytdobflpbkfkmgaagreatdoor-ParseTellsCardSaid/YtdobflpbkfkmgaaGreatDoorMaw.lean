import Derived.Test.YtdobflpbkfkmgaaGreatDoorPbz
namespace Go.Proofs.YtdobflpbkfkmgaaGreatDoor
open Go.RowKit Go.HK Go.FR Lib
set_option linter.unusedVariables false
set_option linter.unusedSimpArgs false
set_option linter.unusedSectionVars false
theorem up_of {lo:Nat} {W W':World} (hB:Below W.heap.size W W'):Up lo lo W W':=⟨Nat.le_refl _,hB.size,fun k _ h => hB.block k h⟩
theorem FmV.up {W W':World} {lo:Nat} {f:Fm} {v:Value} (h:FmV W lo f v) (hB:Below W.heap.size W W'):FmV W' lo f v:=h.turn (up_of hB)
theorem FsV.up {W W':World} {lo:Nat} {f:List Fm} {v:Value} (h:FsV W lo f v) (hB:Below W.heap.size W W'):FsV W' lo f v:=h.turn (up_of hB)
theorem TsV.up {W W':World} {lo:Nat} {f:List Tm} {v:Value} (h:TsV W lo f v) (hB:Below W.heap.size W W'):TsV W' lo f v:=h.turn (up_of hB)
theorem TmV.up {W W':World} {lo:Nat} {f:Tm} {v:Value} (h:TmV W lo f v) (hB:Below W.heap.size W W'):TmV W' lo f v:=h.turn (up_of hB)
theorem bl_al9 {W:World} (o:Obj):Below W.heap.size W (W.alloc o):=(Below.refl _ W).alloc (Nat.le_refl _) o
set_option maxRecDepth 100000 in
set_option maxHeartbeats 1000000 in
theorem p_call (W:World) (lo:Nat) (nm:ByteArray) (hn:nm.size <= maxLen) (l:List Tm) (a:Option Addr) (n c:Nat) (h:TsV W lo l (.slice a n c)):Calls Tryz.prog 21 #[.string nm,.slice a n c] W fun e W' => e = .returned (.agg #[.int .u8 1,.string nm,.slice a n c,.slice none 0 0]) /\ Below W.heap.size W W' /\ FmV W' lo (.mk 1 nm l []) (.agg #[.int .u8 1,.string nm,.slice a n c,.slice none 0 0]):=by
 have hf:∀ W',Below W.heap.size W W' -> FmV W' lo (.mk 1 nm l []) (.agg #[.int .u8 1,.string nm,.slice a n c,.slice none 0 0]):=fun W' hB => by
  obtain ⟨⟨sa,sn,sc⟩,he,h1⟩:=h.up hB
  cases he
  exact ⟨⟨sa,sn,sc⟩,⟨none,0,0⟩,rfl,h1,.nil _ _,by show (1:Nat) < 256; decide,hn⟩
 have HF:=hid hf
 clear hf h hn
 go_enter Tryz.func21,Tryz.ntmps21
 go_wp2
 refine bodyPost_ret (results_cell_row (p:=4) (ty:=28) (by kernel_rfl) _ _ W.heap.size 28 _ (0,0) _ rfl (HK.blk_new _ _) Tryz.underlying28 rfl (by kernel_rfl)) rfl ?_
 exact ⟨rfl,bl_al9 _,HF.out _ (bl_al9 _)⟩
set_option maxRecDepth 100000 in
set_option maxHeartbeats 1000000 in
theorem of_call (W:World) (lo:Nat) (op:Nat) (ho:op < 256) (nm:ByteArray) (hn:nm.size <= maxLen) (l:List Fm) (a:Option Addr) (n c:Nat) (h:FsV W lo l (.slice a n c)):Calls Tryz.prog 20 #[.int .u8 (op:Int),.string nm,.slice a n c] W fun e W' => e = .returned (.agg #[.int .u8 (op:Int),.string nm,.slice none 0 0,.slice a n c]) /\ Below W.heap.size W W' /\ FmV W' lo (.mk op nm [] l) (.agg #[.int .u8 (op:Int),.string nm,.slice none 0 0,.slice a n c]):=by
 have hf:∀ W',Below W.heap.size W W' -> FmV W' lo (.mk op nm [] l) (.agg #[.int .u8 (op:Int),.string nm,.slice none 0 0,.slice a n c]):=fun W' hB => by
  obtain ⟨⟨sa,sn,sc⟩,he,h1⟩:=h.up hB
  cases he
  exact ⟨⟨none,0,0⟩,⟨sa,sn,sc⟩,rfl,.nil _ _,h1,ho,hn⟩
 have HF:=hid hf
 clear hf h hn ho
 go_enter Tryz.func20,Tryz.ntmps20
 go_wp2
 refine bodyPost_ret (results_cell_row (p:=6) (ty:=28) (by kernel_rfl) _ _ W.heap.size 28 _ (0,0) _ rfl (HK.blk_new _ _) Tryz.underlying28 rfl (by kernel_rfl)) rfl ?_
 exact ⟨rfl,bl_al9 _,HF.out _ (bl_al9 _)⟩
set_option maxRecDepth 100000 in
set_option maxHeartbeats 1000000 in
theorem v_call (W:World) (nm:ByteArray):Calls Tryz.prog 22 #[.string nm] W fun e W' => e = .returned (.agg #[.bool true,.string nm,.slice none 0 0]) /\ Below W.heap.size W W':=by
 go_enter Tryz.func22,Tryz.ntmps22
 go_wp2
 refine bodyPost_ret (results_cell_row (p:=2) (ty:=36) (by kernel_rfl) _ _ W.heap.size 36 _ (0,0) _ rfl (HK.blk_new _ _) Tryz.underlying36 rfl (by kernel_rfl)) rfl ?_
 exact ⟨rfl,bl_al9 _⟩
theorem fs_two {W:World} {lo:Nat} {f g:Fm} {c0 c1 c2 c3 d0 d1 d2 d3:Value} (hf:FmV W lo f (.agg #[c0,c1,c2,c3])) (hg:FmV W lo g (.agg #[d0,d1,d2,d3])) (hlo:lo <= W.heap.size):FsV (W.alloc (.cells #[c0,c1,c2,c3,d0,d1,d2,d3] 28)) lo [f,g] (.slice (some ⟨W.heap.size,0,none⟩) 2 2):=by
 have hB:=bl_al9 (W:=W) (.cells #[c0,c1,c2,c3,d0,d1,d2,d3] 28)
 obtain ⟨a1,s1,e1,h1,h2,h3,h4⟩:=hf.up hB
 obtain ⟨a2,s2,e2,k1,k2,k3,k4⟩:=hg.up hB
 cases e1; cases e2
 refine ⟨⟨some ⟨W.heap.size,0,none⟩,2,2⟩,rfl,fs_row [(f,a1,s1),(g,a2,s2)] (fun i v hv => ?_) ⟨hlo,by simp⟩ ?_ rfl⟩
 ·rw [HK.blk_cell (HK.blk_new _ _)]
  rcases (by omega:i = 0 ∨ i = 1 ∨ i = 2 ∨ i = 3 ∨ i = 4 ∨ i = 5 ∨ i = 6 ∨ i = 7 ∨ 8 <= i) with rfl | rfl | rfl | rfl | rfl | rfl | rfl | rfl | h6
  iterate 8 exact hv
  rw [List.getElem?_eq_none (by simpa [celF,fmV] using h6)] at hv; cases hv
 ·intro p hp
  simp only [List.mem_cons,List.mem_nil_iff,or_false] at hp
  rcases hp with rfl | rfl
  ·exact ⟨h1,h2,h3,h4⟩
  ·exact ⟨k1,k2,k3,k4⟩
theorem fs_one {W:World} {lo:Nat} {f:Fm} {c0 c1 c2 c3:Value} (hf:FmV W lo f (.agg #[c0,c1,c2,c3])) (hlo:lo <= W.heap.size):FsV (W.alloc (.cells #[c0,c1,c2,c3] 28)) lo [f] (.slice (some ⟨W.heap.size,0,none⟩) 1 1):=by
 have hB:=bl_al9 (W:=W) (.cells #[c0,c1,c2,c3] 28)
 obtain ⟨a1,s1,e1,h1,h2,h3,h4⟩:=hf.up hB
 cases e1
 refine ⟨⟨some ⟨W.heap.size,0,none⟩,1,1⟩,rfl,fs_row [(f,a1,s1)] (fun i v hv => ?_) ⟨hlo,by simp⟩ ?_ rfl⟩
 ·rw [HK.blk_cell (HK.blk_new _ _)]
  rcases (by omega:i = 0 ∨ i = 1 ∨ i = 2 ∨ i = 3 ∨ 4 <= i) with rfl | rfl | rfl | rfl | h6
  iterate 4 exact hv
  rw [List.getElem?_eq_none (by simpa [celF,fmV] using h6)] at hv; cases hv
 ·intro p hp
  rw [List.mem_singleton] at hp; subst hp
  exact ⟨h1,h2,h3,h4⟩
theorem ts_one9 {W:World} {lo:Nat} (x:ByteArray) (hx:x.size <= maxLen) (hlo:lo <= W.heap.size):TsV (W.alloc (.cells #[.bool true,.string x,.slice none 0 0] 36)) lo [Va x] (.slice (some ⟨W.heap.size,0,none⟩) 1 1):=by
 refine ⟨⟨some ⟨W.heap.size,0,none⟩,1,1⟩,rfl,ts_row [(Va x,⟨none,0,0⟩)] (fun i v hv => ?_) ⟨hlo,by simp⟩ ?_ rfl⟩
 ·rw [HK.blk_cell (HK.blk_new _ _)]
  rcases (by omega:i = 0 ∨ i = 1 ∨ i = 2 ∨ 3 <= i) with rfl | rfl | rfl | h6
  iterate 3 exact hv
  rw [List.getElem?_eq_none (by simpa [celT,tmV] using h6)] at hv; cases hv
 ·intro p hp
  rw [List.mem_singleton] at hp; subst hp
  exact ⟨.nil _ _,hx⟩
theorem ts_two9 {W:World} {lo:Nat} (x t:ByteArray) (hx:x.size <= maxLen) (ht:t.size <= maxLen) (hlo:lo <= W.heap.size):TsV (W.alloc (.cells #[.bool true,.string x,.slice none 0 0,.bool true,.string t,.slice none 0 0] 36)) lo [Va x,Va t] (.slice (some ⟨W.heap.size,0,none⟩) 2 2) :=
 ⟨⟨some ⟨W.heap.size,0,none⟩,2,2⟩,rfl,two_terms x t hx ht (HK.blk_new _ _) ⟨hlo,by simp⟩⟩
theorem same_v {W:World} {l1 l2:Nat} {f:Fm} {v1 v2:Value} (h1:FmV W l1 f v1) (h2:FmV W l2 f v2) (hN:nodesF f <= 1000000):Calls Tryz.prog 11 #[v1,v2] W (RetY W):=by
 obtain ⟨a,s,rfl,x1,x2,x3,x4⟩:=h1
 obtain ⟨b,t,rfl,y1,y2,y3,y4⟩:=h2
 exact form_same f hN W a s b t (x1.turn fun k hk => ⟨hk.2,rfl⟩) (y1.turn fun k hk => ⟨hk.2,rfl⟩) (x2.turn fun k hk => ⟨hk.2,rfl⟩) (y2.turn fun k hk => ⟨hk.2,rfl⟩)
def FX (W:World) (lo:Nat) (f:Fm) (v:Value):Prop:=∃ (o8:Int) (nm:ByteArray) (aa:Option Addr) (an ac:Nat) (sa:Option Addr) (sn sc:Nat),v = .agg #[.int .u8 o8,.string nm,.slice aa an ac,.slice sa sn sc] /\ FmV W lo f (.agg #[.int .u8 o8,.string nm,.slice aa an ac,.slice sa sn sc])
theorem FmV.fx {W:World} {lo:Nat} {f:Fm} {v:Value} (hv:FmV W lo f v):FX W lo f v:=by
 have hv0:=hv
 obtain ⟨a,s2,rfl,_⟩:=hv
 obtain ⟨aa,an,ac⟩:=a
 obtain ⟨sa,sn,sc⟩:=s2
 exact ⟨_,_,_,_,_,_,_,_,rfl,hv0⟩
set_option maxRecDepth 100000 in
set_option maxHeartbeats 4000000 in
theorem means_call (W:World) (lo:Nat) (s:ByteArray) (hs:s.size <= 16384) (hG:Signs W) (hV:IsLv W) (hR:IsRows W) {f:Fm} (h:RdF true (bys s) (.ok f)) (hf:schF f = true) {v:Value} (hv:FmV W lo f v):Calls Tryz.prog 23 #[.string s,v] W (RetY W):=by
 obtain ⟨_,_,_,_,_,_,_,hN⟩:=rdF_ok (l:=bys s) hs h rfl
 have hsa:schA (.ok f) = .ok f:=by simp [schA,hf]
 have hc:=fun (W1:World) (hB:Below W.heap.size W W1) => (sch_call W1 s hs (hG.below hB) (hV.turn (hB.block 0 hV.pos)) (hR.turn (hB.block 1 hR.pos)) h).mono (R':=fun E W' => Below W1.heap.size W1 W' /\ ∃ (o8:Int) (nm:ByteArray) (aa:Option Addr) (an ac:Nat) (sa:Option Addr) (sn sc:Nat),E = .returned (.tuple #[.agg #[.int .u8 o8,.string nm,.slice aa an ac,.slice sa sn sc],.int .i64 0,.int .i64 0]) /\ FmV W' W1.heap.size f (.agg #[.int .u8 o8,.string nm,.slice aa an ac,.slice sa sn sc])) fun E W' hE => by
  rw [hsa] at hE
  obtain ⟨hB,v,he,hv⟩:=hE
  subst he
  obtain ⟨o8,nm,aa,an,ac,sa,sn,sc,rfl,h9⟩:=hv.fx
  exact ⟨hB,_,_,_,_,_,_,_,_,rfl,h9⟩
 have hsm:=fun (W1:World) (l1 l2:Nat) (v1 v2:Value) (h1:FmV W1 l1 f v1) (h2:FmV W1 l2 f v2) => same_v h1 h2 (show nodesF f <= 1000000 by omega)
 obtain ⟨p8,pm,pa,pn,pc,qa,qn,qc,rfl,hv9⟩:=hv.fx
 unfold RetY at hsm ⊢
 have HC:=hid hc
 have HS:=hid hsm
 have HV:=hid hv9
 clear hc hG hV hR hs h hN hf hsa hsm hv hv9
 go_enter Tryz.func23,Tryz.ntmps23
 go_wp2_with (fail)
 go_at_call 12
 with_reducible refine (HC.out _ (bl_al9 _)).mono ?_
 rintro E w1 ⟨hB1,o8,nm,aa,an,ac,sa,sn,sc,rfl,hv1⟩
 have hk:=(hB1.block W.heap.size (by simp)).trans (HK.blk_new W (.cells #[.int .u8 p8,.string pm,.slice pa pn pc,.slice qa qn qc] 28))
 have c0:=HK.blk_cell hk 0
 have c1:=HK.blk_cell hk 1
 have c2:=HK.blk_cell hk 2
 have c3:=HK.blk_cell hk 3
 have hlt:=HK.blk_lt hk
 have hB:Below W.heap.size W w1:=(bl_al9 _).trans (hB1.mono (by simp))
 have hcall:=HS.out (w1.alloc (.cells #[.int .u8 o8,.string nm,.slice aa an ac,.slice sa sn sc] 28)) _ _ _ _ ((HV.out.up hB).up (bl_al9 (.cells #[.int .u8 o8,.string nm,.slice aa an ac,.slice sa sn sc] 28))) (hv1.up (bl_al9 (.cells #[.int .u8 o8,.string nm,.slice aa an ac,.slice sa sn sc] 28)))
 have HCC:=hid hcall
 have HB:=hid (hB.alloc hB.size (.cells #[.int .u8 o8,.string nm,.slice aa an ac,.slice sa sn sc] 28))
 clear hB1 hk hB hv1 hcall
 go_wp2_with (fail)
 go_at_call 11
 with_reducible refine HCC.out.mono ?_
 rintro E w2 ⟨rfl,hB2⟩
 have HB2:=hid (HB.out.trans (hB2.mono HB.out.size))
 clear hB2
 go_wp2_with (fail)
 go_ret
 exact ⟨rfl,HB2.out⟩
end Go.Proofs.YtdobflpbkfkmgaaGreatDoor
namespace Go.Proofs.YtdobflpbkfkmgaaGreatDoor
open Go.RowKit Go.HK Go.FR Lib
set_option linter.unusedVariables false
set_option linter.unusedSimpArgs false
set_option linter.unusedSectionVars false
def toks (s:ByteArray):List Tok:=match lexF 100 0 (bys s) with | some (ts,_,_) => ts | none => []
def runO (m:Bool) (s:ByteArray):Ot:=match run m (toks s) 300 (.bin 0) 0 0 with | some x => x | none => .bad 0 0
def awT1:ByteArray:=⟨#[80,32,38,32,81,32,38,32,82,32,124,32,83,32,45,62,32,84,32,45,62,32,85,49]⟩
def awF1:Fm:=(.mk 6 ⟨#[]⟩ [] [(.mk 5 ⟨#[]⟩ [] [(.mk 4 ⟨#[]⟩ [] [(.mk 4 ⟨#[]⟩ [] [(.mk 1 ⟨#[80]⟩ [] []),(.mk 1 ⟨#[81]⟩ [] [])]),(.mk 1 ⟨#[82]⟩ [] [])]),(.mk 1 ⟨#[83]⟩ [] [])]),(.mk 6 ⟨#[]⟩ [] [(.mk 1 ⟨#[84]⟩ [] []),(.mk 1 ⟨#[85,49]⟩ [] [])])])
theorem awR1:RdF true (bys awT1) (.ok awF1):=by
 have h:lexF 100 0 (bys awT1) = some (toks awT1,0,0):=by kernel_rfl
 have h2:run true (toks awT1) 300 (.bin 0) 0 0 = some (runO true awT1):=by kernel_rfl
 have h3:resF (toks awT1) (runO true awT1) = .ok awF1:=by kernel_rfl
 have:=RdF.read (m:=true) (lexF_sound _ _ _ _ _ _ h) h2
 rw [h3] at this
 exact this
theorem awS1:schF awF1 = true:=by kernel_rfl
def awT2:ByteArray:=⟨#[97,108,108,32,120,32,80,40,120,41,32,38,32,81]⟩
def awF2:Fm:=(.mk 4 ⟨#[]⟩ [] [(.mk 8 ⟨#[120]⟩ [] [(.mk 1 ⟨#[80]⟩ [Va ⟨#[120]⟩] [])]),(.mk 1 ⟨#[81]⟩ [] [])])
theorem awR2:RdF true (bys awT2) (.ok awF2):=by
 have h:lexF 100 0 (bys awT2) = some (toks awT2,0,0):=by kernel_rfl
 have h2:run true (toks awT2) 300 (.bin 0) 0 0 = some (runO true awT2):=by kernel_rfl
 have h3:resF (toks awT2) (runO true awT2) = .ok awF2:=by kernel_rfl
 have:=RdF.read (m:=true) (lexF_sound _ _ _ _ _ _ h) h2
 rw [h3] at this
 exact this
theorem awS2:schF awF2 = true:=by kernel_rfl
def awT3:ByteArray:=⟨#[126,91,93,80,32,117,110,116,105,108,32,81,32,117,110,116,105,108,32,82]⟩
def awF3:Fm:=(.mk 14 ⟨#[]⟩ [] [(.mk 3 ⟨#[]⟩ [] [(.mk 10 ⟨#[]⟩ [] [(.mk 1 ⟨#[80]⟩ [] [])])]),(.mk 14 ⟨#[]⟩ [] [(.mk 1 ⟨#[81]⟩ [] []),(.mk 1 ⟨#[82]⟩ [] [])])])
theorem awR3:RdF true (bys awT3) (.ok awF3):=by
 have h:lexF 100 0 (bys awT3) = some (toks awT3,0,0):=by kernel_rfl
 have h2:run true (toks awT3) 300 (.bin 0) 0 0 = some (runO true awT3):=by kernel_rfl
 have h3:resF (toks awT3) (runO true awT3) = .ok awF3:=by kernel_rfl
 have:=RdF.read (m:=true) (lexF_sound _ _ _ _ _ _ h) h2
 rw [h3] at this
 exact this
theorem awS3:schF awF3 = true:=by kernel_rfl
def awT4:ByteArray:=⟨#[80,32,45,62,32,81,32,60,45,62,32,82,32,60,45,62,32,83]⟩
def awF4:Fm:=(.mk 7 ⟨#[]⟩ [] [(.mk 7 ⟨#[]⟩ [] [(.mk 6 ⟨#[]⟩ [] [(.mk 1 ⟨#[80]⟩ [] []),(.mk 1 ⟨#[81]⟩ [] [])]),(.mk 1 ⟨#[82]⟩ [] [])]),(.mk 1 ⟨#[83]⟩ [] [])])
theorem awR4:RdF true (bys awT4) (.ok awF4):=by
 have h:lexF 100 0 (bys awT4) = some (toks awT4,0,0):=by kernel_rfl
 have h2:run true (toks awT4) 300 (.bin 0) 0 0 = some (runO true awT4):=by kernel_rfl
 have h3:resF (toks awT4) (runO true awT4) = .ok awF4:=by kernel_rfl
 have:=RdF.read (m:=true) (lexF_sound _ _ _ _ _ _ h) h2
 rw [h3] at this
 exact this
theorem awS4:schF awF4 = true:=by kernel_rfl
def awT5:ByteArray:=⟨#[63,65,91,63,116,47,120,93,32,38,32,115,111,109,101,32,120,32,63,65]⟩
def awF5:Fm:=(.mk 4 ⟨#[]⟩ [] [(.mk 16 ⟨#[63,65]⟩ [Va ⟨#[120]⟩,Va ⟨#[63,116]⟩] []),(.mk 9 ⟨#[120]⟩ [] [(.mk 15 ⟨#[63,65]⟩ [] [])])])
theorem awR5:RdF true (bys awT5) (.ok awF5):=by
 have h:lexF 100 0 (bys awT5) = some (toks awT5,0,0):=by kernel_rfl
 have h2:run true (toks awT5) 300 (.bin 0) 0 0 = some (runO true awT5):=by kernel_rfl
 have h3:resF (toks awT5) (runO true awT5) = .ok awF5:=by kernel_rfl
 have:=RdF.read (m:=true) (lexF_sound _ _ _ _ _ _ h) h2
 rw [h3] at this
 exact this
theorem awS5:schF awF5 = true:=by kernel_rfl
theorem awB0:RdF false (bys ⟨#[80,32,38]⟩) (.bad 3 50):=by
 have h:lexF 100 0 (bys ⟨#[80,32,38]⟩) = some (toks ⟨#[80,32,38]⟩,0,0):=by kernel_rfl
 have h2:run false (toks ⟨#[80,32,38]⟩) 300 (.bin 0) 0 0 = some (runO false ⟨#[80,32,38]⟩):=by kernel_rfl
 have h3:resF (toks ⟨#[80,32,38]⟩) (runO false ⟨#[80,32,38]⟩) = (.bad 3 50):=by kernel_rfl
 have:=RdF.read (m:=false) (lexF_sound _ _ _ _ _ _ h) h2
 rw [h3] at this
 exact this
theorem awB1:RdF false (bys ⟨#[80,32,81]⟩) (.bad 2 50):=by
 have h:lexF 100 0 (bys ⟨#[80,32,81]⟩) = some (toks ⟨#[80,32,81]⟩,0,0):=by kernel_rfl
 have h2:run false (toks ⟨#[80,32,81]⟩) 300 (.bin 0) 0 0 = some (runO false ⟨#[80,32,81]⟩):=by kernel_rfl
 have h3:resF (toks ⟨#[80,32,81]⟩) (runO false ⟨#[80,32,81]⟩) = (.bad 2 50):=by kernel_rfl
 have:=RdF.read (m:=false) (lexF_sound _ _ _ _ _ _ h) h2
 rw [h3] at this
 exact this
theorem awB2:RdF false (bys ⟨#[97,108,108,32,97,32,80]⟩) (.bad 4 50):=by
 have h:lexF 100 0 (bys ⟨#[97,108,108,32,97,32,80]⟩) = some (toks ⟨#[97,108,108,32,97,32,80]⟩,0,0):=by kernel_rfl
 have h2:run false (toks ⟨#[97,108,108,32,97,32,80]⟩) 300 (.bin 0) 0 0 = some (runO false ⟨#[97,108,108,32,97,32,80]⟩):=by kernel_rfl
 have h3:resF (toks ⟨#[97,108,108,32,97,32,80]⟩) (runO false ⟨#[97,108,108,32,97,32,80]⟩) = (.bad 4 50):=by kernel_rfl
 have:=RdF.read (m:=false) (lexF_sound _ _ _ _ _ _ h) h2
 rw [h3] at this
 exact this
theorem awB3:RdF false (bys ⟨#[80,40]⟩) (.bad 2 50):=by
 have h:lexF 100 0 (bys ⟨#[80,40]⟩) = some (toks ⟨#[80,40]⟩,0,0):=by kernel_rfl
 have h2:run false (toks ⟨#[80,40]⟩) 300 (.bin 0) 0 0 = some (runO false ⟨#[80,40]⟩):=by kernel_rfl
 have h3:resF (toks ⟨#[80,40]⟩) (runO false ⟨#[80,40]⟩) = (.bad 2 50):=by kernel_rfl
 have:=RdF.read (m:=false) (lexF_sound _ _ _ _ _ _ h) h2
 rw [h3] at this
 exact this
theorem awB4:RdF false (bys ⟨#[80,40,41]⟩) (.bad 2 50):=by
 have h:lexF 100 0 (bys ⟨#[80,40,41]⟩) = some (toks ⟨#[80,40,41]⟩,0,0):=by kernel_rfl
 have h2:run false (toks ⟨#[80,40,41]⟩) 300 (.bin 0) 0 0 = some (runO false ⟨#[80,40,41]⟩):=by kernel_rfl
 have h3:resF (toks ⟨#[80,40,41]⟩) (runO false ⟨#[80,40,41]⟩) = (.bad 2 50):=by kernel_rfl
 have:=RdF.read (m:=false) (lexF_sound _ _ _ _ _ _ h) h2
 rw [h3] at this
 exact this
theorem awB5:RdF false (bys ⟨#[40,80]⟩) (.bad 2 50):=by
 have h:lexF 100 0 (bys ⟨#[40,80]⟩) = some (toks ⟨#[40,80]⟩,0,0):=by kernel_rfl
 have h2:run false (toks ⟨#[40,80]⟩) 300 (.bin 0) 0 0 = some (runO false ⟨#[40,80]⟩):=by kernel_rfl
 have h3:resF (toks ⟨#[40,80]⟩) (runO false ⟨#[40,80]⟩) = (.bad 2 50):=by kernel_rfl
 have:=RdF.read (m:=false) (lexF_sound _ _ _ _ _ _ h) h2
 rw [h3] at this
 exact this
theorem awB6:RdF false (bys ⟨#[63,65]⟩) (.bad 0 50):=by
 have h:lexF 100 0 (bys ⟨#[63,65]⟩) = some (toks ⟨#[63,65]⟩,0,0):=by kernel_rfl
 have h2:run false (toks ⟨#[63,65]⟩) 300 (.bin 0) 0 0 = some (runO false ⟨#[63,65]⟩):=by kernel_rfl
 have h3:resF (toks ⟨#[63,65]⟩) (runO false ⟨#[63,65]⟩) = (.bad 0 50):=by kernel_rfl
 have:=RdF.read (m:=false) (lexF_sound _ _ _ _ _ _ h) h2
 rw [h3] at this
 exact this
def awG7:Fm:=.mk 1 ⟨#[80]⟩ [.mk false ⟨#[97]⟩ [],.mk false ⟨#[97]⟩ [],.mk false ⟨#[97]⟩ [],.mk false ⟨#[97]⟩ [],.mk false ⟨#[97]⟩ []] []
theorem awN7:rightF awG7 = false:=by kernel_rfl
theorem awB7:RdF false (bys ⟨#[80,40,97,44,32,97,44,32,97,44,32,97,44,32,97,41]⟩) (.ok awG7):=by
 have h:lexF 100 0 (bys ⟨#[80,40,97,44,32,97,44,32,97,44,32,97,44,32,97,41]⟩) = some (toks ⟨#[80,40,97,44,32,97,44,32,97,44,32,97,44,32,97,41]⟩,0,0):=by kernel_rfl
 have h2:run false (toks ⟨#[80,40,97,44,32,97,44,32,97,44,32,97,44,32,97,41]⟩) 300 (.bin 0) 0 0 = some (runO false ⟨#[80,40,97,44,32,97,44,32,97,44,32,97,44,32,97,41]⟩):=by kernel_rfl
 have h3:resF (toks ⟨#[80,40,97,44,32,97,44,32,97,44,32,97,44,32,97,41]⟩) (runO false ⟨#[80,40,97,44,32,97,44,32,97,44,32,97,44,32,97,41]⟩) = (.ok awG7):=by kernel_rfl
 have:=RdF.read (m:=false) (lexF_sound _ _ _ _ _ _ h) h2
 rw [h3] at this
 exact this
theorem awB8:RdF false (bys ⟨#[]⟩) (.bad 0 50):=by
 have h:lexF 100 0 (bys ⟨#[]⟩) = some (toks ⟨#[]⟩,0,0):=by kernel_rfl
 have h2:run false (toks ⟨#[]⟩) 300 (.bin 0) 0 0 = some (runO false ⟨#[]⟩):=by kernel_rfl
 have h3:resF (toks ⟨#[]⟩) (runO false ⟨#[]⟩) = (.bad 0 50):=by kernel_rfl
 have:=RdF.read (m:=false) (lexF_sound _ _ _ _ _ _ h) h2
 rw [h3] at this
 exact this
end Go.Proofs.YtdobflpbkfkmgaaGreatDoor
