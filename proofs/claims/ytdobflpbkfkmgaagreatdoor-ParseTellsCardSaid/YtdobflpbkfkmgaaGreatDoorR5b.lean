import Derived.Test.YtdobflpbkfkmgaaGreatDoorR5a
namespace Go.Proofs.YtdobflpbkfkmgaaGreatDoor
open Go.RowKit Go.HK Go.FR Lib
set_option linter.unusedVariables false
set_option linter.unusedSimpArgs false
set_option linter.unusedSectionVars false
def FmS (S:Nat -> Prop) (W:World) (f:Fm) (v:Value):Prop:=∃ a s:SL,v = .agg #[.int .u8 (f.op:Int),.string f.name,a.v,s.v] /\ IsTs S W a f.args /\ IsFs S W s f.subs /\ f.op < 256 /\ f.name.size <= maxLen
theorem FmS.turn {S T:Nat -> Prop} {W W':World} {f:Fm} {v:Value} (h:FmS S W f v) (hb:∀ k,S k -> T k /\ W'.heap[k]? = W.heap[k]?):FmS T W' f v:=by
 obtain ⟨a,s,e,h1,h2,h3⟩:=h
 exact ⟨a,s,e,h1.turn hb,h2.turn hb,h3⟩
theorem fs_two_S {S:Nat -> Prop} {W:World} {g:Nat} {f f2:Fm} {c0 c1 c2 c3 d0 d1 d2 d3:Value} (hf:FmS S W f (.agg #[c0,c1,c2,c3])) (hg:FmS S W f2 (.agg #[d0,d1,d2,d3])) (hk:W.heap[g]? = some (.cells #[c0,c1,c2,c3,d0,d1,d2,d3] 28 (0,0))) (hS:S g):IsFs S W ⟨some ⟨g,0,none⟩,2,2⟩ [f,f2]:=by
 obtain ⟨a1,s1,e1,h1,h2,h3,h4⟩:=hf
 obtain ⟨a2,s2,e2,k1,k2,k3,k4⟩:=hg
 cases e1; cases e2
 refine fs_row [(f,a1,s1),(f2,a2,s2)] (fun i v hv => ?_) hS ?_ rfl
 ·rw [HK.blk_cell hk]
  rcases (by omega:i = 0 ∨ i = 1 ∨ i = 2 ∨ i = 3 ∨ i = 4 ∨ i = 5 ∨ i = 6 ∨ i = 7 ∨ 8 <= i) with rfl | rfl | rfl | rfl | rfl | rfl | rfl | rfl | h6
  iterate 8 exact hv
  rw [List.getElem?_eq_none (by simpa [celF,fmV] using h6)] at hv; cases hv
 ·intro p hp
  simp only [List.mem_cons,List.mem_nil_iff,or_false] at hp
  rcases hp with rfl | rfl
  ·exact ⟨h1,h2,h3,h4⟩
  ·exact ⟨k1,k2,k3,k4⟩
theorem fs_one_S {S:Nat -> Prop} {W:World} {g:Nat} {f:Fm} {c0 c1 c2 c3:Value} (hf:FmS S W f (.agg #[c0,c1,c2,c3])) (hk:W.heap[g]? = some (.cells #[c0,c1,c2,c3] 28 (0,0))) (hS:S g):IsFs S W ⟨some ⟨g,0,none⟩,1,1⟩ [f]:=by
 obtain ⟨a1,s1,e1,h1,h2,h3,h4⟩:=hf
 cases e1
 refine fs_row [(f,a1,s1)] (fun i v hv => ?_) hS ?_ rfl
 ·rw [HK.blk_cell hk]
  rcases (by omega:i = 0 ∨ i = 1 ∨ i = 2 ∨ i = 3 ∨ 4 <= i) with rfl | rfl | rfl | rfl | h6
  iterate 4 exact hv
  rw [List.getElem?_eq_none (by simpa [celF,fmV] using h6)] at hv; cases hv
 ·intro p hp
  rw [List.mem_singleton.1 hp]
  exact ⟨h1,h2,h3,h4⟩
theorem two_S {S:Nat -> Prop} {W:World} {r:Nat} {f f2:Fm} {c0 c1 c2 c3 d0 d1 d2 d3:Value} {op:Nat} (ho:op < 256) (hf:FmS S W f (.agg #[c0,c1,c2,c3])) (hg:FmS S W f2 (.agg #[d0,d1,d2,d3])) (hk:W.heap[r]? = some (.cells #[c0,c1,c2,c3,d0,d1,d2,d3] 28 (0,0))) (hS:S r):FmS S W (Op2 op f f2) (.agg #[.int .u8 (op:Int),.string ⟨#[]⟩,.slice none 0 0,.slice (some ⟨r,0,none⟩) 2 2]) :=
 ⟨⟨none,0,0⟩,⟨some ⟨r,0,none⟩,2,2⟩,rfl,.nil _ _,fs_two_S hf hg hk hS,ho,by show (0:Nat) <= _; decide⟩
def erO:Ot -> Int
 | .ok _ _ => 0
 | .bad _ e => (e:Int)
def RN (w W:World) (j:Nat):Prop:=w.heap.size < j /\ j < W.heap.size
def RetRF (w:World) (g z:Nat) (x:Ot) (E:Ending) (W':World):Prop:=Below w.heap.size w W' /\ ∃ (qo:Int) (qn:ByteArray) (qa:Option Addr) (qb qc:Nat) (qd:Option Addr) (qe qf:Nat) (o n c:Nat) (er:Int),E = .returned (.tuple #[.agg #[.int .u8 qo,.string qn,.slice qa qb qc,.slice qd qe qf],.slice (some ⟨g,o,none⟩) n c,.int .i64 er]) /\ er = erO x /\ SlT' z (plO x) o n c /\ (∀ ob k,x = .ok ob k -> FmS (RN w W') W' (fmO ob) (.agg #[.int .u8 qo,.string qn,.slice qa qb qc,.slice qd qe qf]))
def RetRA (w:World) (g z:Nat) (x:Ot) (E:Ending) (W':World):Prop:=Below w.heap.size w W' /\ ∃ (a:Option Addr) (an ac:Nat) (o n c:Nat) (er:Int),E = .returned (.tuple #[.slice a an ac,.slice (some ⟨g,o,none⟩) n c,.int .i64 er]) /\ er = erO x /\ SlT' z (plO x) o n c /\ (∀ ob k,x = .ok ob k -> IsTs (fun j => w.heap.size <= j /\ j < W'.heap.size) W' ⟨a,an,ac⟩ (tsO ob))
def RetRT (w:World) (g z:Nat) (x:Ot) (E:Ending) (W':World):Prop:=Below w.heap.size w W' /\ ∃ (b:Bool) (nm:ByteArray) (a:Option Addr) (an ac:Nat) (o n c:Nat) (er:Int),E = .returned (.tuple #[.agg #[.bool b,.string nm,.slice a an ac],.slice (some ⟨g,o,none⟩) n c,.int .i64 er]) /\ er = erO x /\ SlT' z (plO x) o n c /\ (∀ ob k,x = .ok ob k -> b = (tO ob).var /\ nm = (tO ob).name /\ nm.size <= maxLen /\ IsTs (RN w W') W' ⟨a,an,ac⟩ (tO ob).args)
section
variable (ts:List Tok) (z g n:Nat)
def LC (fn:Nat) (gl:Gl):Prop:=∀ (k s:Nat) (x:Ot),run true ts n gl k s = some x -> ∀ (w:World) (o nn c:Nat),TkR w g ts z -> SlT' z k o nn c -> s <= k -> Calls Tryz.prog fn #[.slice (some ⟨g,o,none⟩) nn c,.int .i64 (s:Int)] w (RetRF w g z x)
def LA:Prop:=∀ (k s:Nat) (x:Ot),run true ts n .args k s = some x -> ∀ (w:World) (o nn c:Nat),TkR w g ts z -> SlT' z k o nn c -> s <= k -> Calls Tryz.prog 68 #[.slice (some ⟨g,o,none⟩) nn c,.int .i64 (s:Int)] w (RetRA w g z x)
def LT:Prop:=∀ (k s:Nat) (x:Ot),run true ts n .term k s = some x -> ∀ (w:World) (o nn c:Nat),TkR w g ts z -> SlT' z k o nn c -> s <= k -> Calls Tryz.prog 36 #[.slice (some ⟨g,o,none⟩) nn c,.int .i64 (s:Int)] w (RetRT w g z x)
structure DoneR:Prop where
 f0:LC ts z g n 43 (.bin 0)
 f1:LC ts z g n 75 (.bin 1)
 f2:LC ts z g n 105 (.bin 2)
 f3:LC ts z g n 123 (.bin 3)
 f4:LC ts z g n 127 (.bin 4)
 un:LC ts z g n 135 .un
 ba:LC ts z g n 140 .basic
 ar:LA ts z g n
 te:LT ts z g n
end
theorem LC.le {ts:List Tok} {z g n m:Nat} {fn:Nat} {gl:Gl} (h:LC ts z g n fn gl) (hm:m <= n):LC ts z g m fn gl:=fun k s x hx => h k s x (run_le true ts hm hx)
theorem DoneR.f5 {ts:List Tok} {z g n:Nat} (h:DoneR ts z g n):LC ts z g n 135 (.bin 5):=fun k s x hx => by
 cases n with
 | zero => cases hx
 | succ m =>
  unfold run at hx
  rw [if_neg (by omega)] at hx
  exact h.un k s x (run_le true ts (Nat.le_succ m) hx)
def RS (w:World) (b:Nat) (W:World) (j:Nat):Prop:=w.heap.size < j /\ j < W.heap.size /\ j ≠ b
def sLen:Value -> Nat
 | .slice _ n _ => n
 | _ => 0
def sFlag:Value -> Nat
 | .int _ i => if i = 0 then 1 else 0
 | _ => 0
def LvI (ts:List Tok) (z g i N s:Nat) (x:Ot) (w:World) (b7:Nat) (wr:World) (v0 v8:Value):Prop :=
 ∃ (o nn c kk:Nat) (er:Int) (qo:Int) (qn:ByteArray) (qa:Option Addr) (qb qc:Nat) (qd:Option Addr) (qe qf:Nat),v0 = .slice (some ⟨g,o,none⟩) nn c /\ v8 = .int .i64 er /\ SlT' z kk o nn c /\ s <= kk /\ wr.heap[b7]? = some (.cells #[.int .u8 qo,.string qn,.slice qa qb qc,.slice qd qe qf] 28 (0,0)) /\ Below w.heap.size w wr /\ wr.heap[w.heap.size]? = some (.cells #[.int .u8 0,.string ⟨#[]⟩,.slice none 0 0,.slice none 0 0] 28 (0,0)) /\
  ((er = 0 /\ ∃ f m,m <= N /\ run true ts m (.loop i f) kk s = some x /\ FmS (RS w b7 wr) wr f (.agg #[.int .u8 qo,.string qn,.slice qa qb qc,.slice qd qe qf])) ∨ (∃ e:Nat,er = (e:Int) /\ e ≠ 0 /\ x = .bad kk e))
theorem heap4 {w:World} {b B:Nat} (hn:B ≠ b) (v0 v1 v2 v3:Value):((((w.setCell ⟨b,0,none⟩ v0).setCell ⟨b,1,none⟩ v1).setCell ⟨b,2,none⟩ v2).setCell ⟨b,3,none⟩ v3).heap[B]? = w.heap[B]?:=by
 rw [Below.heap_setCell _ _ _ _ (by simpa using hn),Below.heap_setCell _ _ _ _ (by simpa using hn),Below.heap_setCell _ _ _ _ (by simpa using hn),Below.heap_setCell _ _ _ _ (by simpa using hn)]
theorem below4 {a w:World} {B b:Nat} (h:Below B a w) (hb:B <= b) (v0 v1 v2 v3:Value):Below B a ((((w.setCell ⟨b,0,none⟩ v0).setCell ⟨b,1,none⟩ v1).setCell ⟨b,2,none⟩ v2).setCell ⟨b,3,none⟩ v3):=(((h.setCell (p:=⟨b,0,none⟩) hb _).setCell (p:=⟨b,1,none⟩) hb _).setCell (p:=⟨b,2,none⟩) hb _).setCell (p:=⟨b,3,none⟩) hb _
theorem size4 {w:World} {b:Nat} (v0 v1 v2 v3:Value):((((w.setCell ⟨b,0,none⟩ v0).setCell ⟨b,1,none⟩ v1).setCell ⟨b,2,none⟩ v2).setCell ⟨b,3,none⟩ v3).heap.size = w.heap.size:=by simp
theorem fin_box {w wr:World} {f:Fm} {v:Value} {b7:Nat} (h:FmS (RS w b7 wr) wr f v) (v0 v1 v2 v3:Value):FmS (RN w ((((wr.setCell ⟨w.heap.size,0,none⟩ v0).setCell ⟨w.heap.size,1,none⟩ v1).setCell ⟨w.heap.size,2,none⟩ v2).setCell ⟨w.heap.size,3,none⟩ v3)) ((((wr.setCell ⟨w.heap.size,0,none⟩ v0).setCell ⟨w.heap.size,1,none⟩ v1).setCell ⟨w.heap.size,2,none⟩ v2).setCell ⟨w.heap.size,3,none⟩ v3) f v :=
 h.turn fun j hj => ⟨⟨hj.1,by rw [size4]; exact hj.2.1⟩,heap4 (by have:=hj.1; omega) _ _ _ _⟩
set_option maxRecDepth 100000 in
set_option maxHeartbeats 8000000 in
theorem lev0 {ts:List Tok} {z g n:Nat} (hN:LC ts z g n 75 (.bin 1)):LC ts z g (n + 1) 43 (.bin 0):=by
 intro k s x hr w o nn c hT hS hsk
 unfold run at hr
 simp only [show ((0:Nat) < 5) = True by simp,if_true,show lvR 0 = false by decide,Bool.false_eq_true,if_false] at hr
 have hE:=hT.ok.en
 have hz6:=hT.ok.le
 have s6:(s:Int) <= 100000:=by have:=hS.hk; omega
 have s0:(0:Int) <= (s:Int):=by omega
 obtain ⟨y,hy,hyx⟩:∃ y,run true ts n (.bin 1) k s = some y /\ ((∃ ob k1,y = .ok ob k1 /\ run true ts n (.loop 0 (fmO ob)) k1 s = some x) ∨ (∃ k1 e,y = .bad k1 e /\ x = .bad k1 e)):=by
  rcases thenO_some hr with ⟨ob,k1,h1,h2⟩ | ⟨k1,e,h1,h2⟩
  ·exact ⟨_,h1,.inl ⟨ob,k1,rfl,h2⟩⟩
  ·exact ⟨_,h1,.inr ⟨k1,e,rfl,h2⟩⟩
 have hin:=run_iz hE n _ _ _ _ hS.hk hy
 have hcy:=fun (W:World) (hB:Below w.heap.size w W) => hN k s y hy W o nn c (hT.up hB) hS hsk
 have HCY:=hid hcy
 have HYX:=hid hyx
 have HIN:=hid hin
 have HT:=hid hT
 have HNN:=hid hN
 have HZ6:=hid hz6
 have HSK:=hid hsk
 clear hr hy hyx hin hcy hT hN hS hE hz6 hsk
 unfold RetRF at HCY
 go_enter Tryz.func43,Tryz.ntmps43
 go_wp2_with (fail)
 go_at_call 75
 with_reducible refine (HCY.out _ (bl_al9 _)).mono ?_
 rintro _ w2 ⟨hB2,po,pn,pa,pb,pc,pd,pe,pf,o1,n1,c1,e1,rfl,her,hsl,hfm⟩
 have hz0:=(hB2.block _ (HK.blk_lt (HK.blk_new w (.cells #[.int .u8 0,.string ⟨#[]⟩,.slice none 0 0,.slice none 0 0] 28)))).trans (HK.blk_new w (.cells #[.int .u8 0,.string ⟨#[]⟩,.slice none 0 0,.slice none 0 0] 28))
 have HB2:=hid ((bl_al9 (W:=w) (.cells #[.int .u8 0,.string ⟨#[]⟩,.slice none 0 0,.slice none 0 0] 28)).trans (hB2.mono (bl_al9 (W:=w) (.cells #[.int .u8 0,.string ⟨#[]⟩,.slice none 0 0,.slice none 0 0] 28)).size))
 have hI:LvI ts z g 0 n s x w w2.heap.size (w2.alloc (.cells #[.int .u8 po,.string pn,.slice pa pb pc,.slice pd pe pf] 28)) (.slice (some ⟨g,o1,none⟩) n1 c1) (.int .i64 e1):=by
  refine ⟨o1,n1,c1,plO y,e1,po,pn,pa,pb,pc,pd,pe,pf,rfl,rfl,hsl,?_,HK.blk_new _ _,HB2.out.alloc HB2.out.size _,HK.blk_alloc hz0 _,?_⟩
  ·have h1:=HIN.out
   have h2:=HSK.out
   cases y <;> (simp only [inO] at h1; simp only [plO]; omega)
  ·rcases HYX.out with ⟨ob,k1,rfl,hx⟩ | ⟨k1,e,rfl,hx⟩
   ·left
    refine ⟨her,fmO ob,n,Nat.le_refl _,hx,(hfm ob k1 rfl).turn fun j hj => ⟨⟨?_,?_,?_⟩,Below.heap_alloc _ _ _ hj.2⟩⟩
    ·have:=hj.1; simp only [World.size_alloc] at this; omega
    ·have:=hj.2; simp only [World.size_alloc]; omega
    ·have:=hj.2; omega
   ·right
    have h1:=HIN.out
    simp only [inO] at h1
    exact ⟨e,her,by omega,hx⟩
 have HI:=hid hI
 obtain ⟨b7,hb7⟩:∃ b,b = w2.heap.size:=⟨_,rfl⟩
 rw [<- hb7] at HI
 have HB7:Hid (w.heap.size < b7):=hid (by rw [hb7]; have:=hB2.size; simp only [World.size_alloc] at this; omega)
 clear hI her hsl hfm hz0 hB2
 go_upto_region 2 with (fail)
 rw [<- hb7]
 clear hb7
 go_loopw [0,8] (fun v0 v8 wr => LvI ts z g 0 n s x w b7 wr v0 v8) (fun v0 v8 _ => sLen v0 + sFlag v8)
 case atStart => exact HI.out
 case round =>
  obtain ⟨o,nn,c,kk,er,qo,qn,qa,qb,qc,qd,qe,qf,rfl,rfl,hS,hsk,hk7,hBW,hz,hst⟩:=hrel
  have HBW:=hid hBW
  have HSL:=hid hS
  have HSK2:=hid hsk
  have hne7:¬ b7 = w.heap.size:=by have:=HB7.out; omega
  rcases hst with ⟨her,f,m,hm,hrun,hfm⟩ | ⟨e,her,he0,hx⟩
  ·subst her
   have hsgn:=rsg_call (HT.out.up hBW) hS ⟨#[60,45,62]⟩ (by unfold Sg; decide)
   rw [show bys (⟨#[60,45,62]⟩:ByteArray) = lvS 0 from rfl] at hsgn
   have HSG:=hid hsgn
   have hlt:txt ts kk = lvS 0 -> kk < z:=fun h => HT.out.ok.en.lt hS.hk (by rw [h]; exact lvS_ne 0)
   have hnx:∃ m',m = m' + 1:=by
    cases m with
    | zero => cases hrun
    | succ m' => exact ⟨m',rfl⟩
   obtain ⟨m',rfl⟩:=hnx
   unfold run at hrun
   by_cases htx:txt ts kk = lvS 0
   ·rw [if_pos htx] at hrun
    obtain ⟨yy2,hy2,hyx2⟩:∃ yy2,run true ts m' (.bin 1) (kk + 1) s = some yy2 /\ ((∃ ob k1,yy2 = .ok ob k1 /\ run true ts m' (.loop 0 (Op2 (lvO 0) f (fmO ob))) k1 s = some x) ∨ (∃ k1 e,yy2 = .bad k1 e /\ x = .bad k1 e)):=by
     rcases thenO_some hrun with ⟨ob,k1,h1,h2⟩ | ⟨k1,e,h1,h2⟩
     ·exact ⟨_,h1,.inl ⟨ob,k1,rfl,h2⟩⟩
     ·exact ⟨_,h1,.inr ⟨k1,e,rfl,h2⟩⟩
    have hkz:=hlt htx
    have hin2:=run_iz HT.out.ok.en m' _ _ _ _ hkz hy2
    have hc2:=fun (W:World) (hB:Below w.heap.size w W) (o' n' c':Nat) (hS':SlT' z (kk + 1) o' n' c') => HNN.out.le (Nat.le_trans (Nat.le_succ m') hm) (kk + 1) s yy2 hy2 W o' n' c' (HT.out.up hB) hS' (by omega)
    unfold RetRF at hc2
    have HC2:=hid hc2
    have HYX2:=hid hyx2
    have HIN2:=hid hin2
    have HFM:=hid hfm
    have HM:=hid hm
    have HTX:=hid htx
    have n1:(1:Int) <= (nn:Int):=by have:=hS.hn; omega
    have n2:(nn:Int) <= (c:Int):=by have:=hS.hc; omega
    have c1:(1:Int) <= (c:Int):=by omega
    have n3:(1:Int) < (nn:Int):=by have:=hS.hn; omega
    have c3:(1:Int) < (c:Int):=by omega
    have hsl1:SlT' z (kk + 1) (o + 3) (nn - 1) (c - 1):=⟨by have:=hS.ho; omega,by have:=hS.hn; omega,by have:=hS.hc; omega,hkz⟩
    have HS1:=hid hsl1
    have HZ:=hid hz
    have HK7:=hid hk7
    have htrue:decide (txt ts kk = lvS 0) = true:=decide_eq_true htx
    rw [htrue] at HSG
    clear hrun hlt hy2 hyx2 hin2 hfm hm htx hc2 hkz hsgn hS hsl1 hsk hz hk7 hBW htrue
    go_wp2_with (go_at_call 44; ((with_reducible refine HSG.out.mono ?_); rintro _ w9 ⟨rfl,rfl⟩))
    go_at_call 75
    with_reducible refine (HC2.out wr HBW.out (o + 3) (nn - 1) (c - 1) HS1.out).mono ?_
    rintro _ w3 ⟨hB3,ro,rn,ra,rb,rc,rd,re,rf,o3,m3,d3,e3,rfl,her3,hsl3,hfm3⟩
    have hk7:=HK.blk_alloc ((hB3.block _ (HK.blk_lt HK7.out)).trans HK7.out) (.cells #[.int .u8 ro,.string rn,.slice ra rb rc,.slice rd re rf] 28)
    have hz4:=HK.blk_alloc ((hB3.block _ (HK.blk_lt HZ.out)).trans HZ.out) (.cells #[.int .u8 ro,.string rn,.slice ra rb rc,.slice rd re rf] 28)
    have hk9:=HK.blk_new w3 (.cells #[.int .u8 ro,.string rn,.slice ra rb rc,.slice rd re rf] 28)
    have HBW4:=hid ((HBW.out.trans (hB3.mono HBW.out.size)).alloc (HBW.out.trans (hB3.mono HBW.out.size)).size (.cells #[.int .u8 ro,.string rn,.slice ra rb rc,.slice rd re rf] 28))
    have HB3:=hid hB3
    have HE3:=hid her3
    have HS3:=hid hsl3
    have HF3:=hid hfm3
    have HZ4:=hid hz4
    have HK74:=hid hk7
    clear hB3 her3 hsl3 hfm3 hz4 n1 n2 n3 c1 c3
    go_upto_region 4 with (fail)
    obtain ⟨b9,hb9⟩:∃ b,b = w3.heap.size:=⟨_,rfl⟩
    rw [<- hb9] at hk9 ⊢
    obtain ⟨w4,hw4⟩:∃ x,x = w3.alloc (.cells #[.int .u8 ro,.string rn,.slice ra rb rc,.slice rd re rf] 28):=⟨_,rfl⟩
    rw [<- hw4] at HK74 HZ4 hk7 hk9 HBW4 ⊢
    have HW4:=hid hw4
    have HB9:=hid hb9
    clear hw4 hb9
    have y0:=HK.blk_cell hk7 0
    have y1:=HK.blk_cell hk7 1
    have y2:=HK.blk_cell hk7 2
    have y3:=HK.blk_cell hk7 3
    have v0:=HK.blk_cell hk9 0
    have v1:=HK.blk_cell hk9 1
    have v2:=HK.blk_cell hk9 2
    have v3:=HK.blk_cell hk9 3
    clear hk7 hk9
    go_wp2_with (fail)
    go_at_call 76
    with_reducible refine (two_call _ _ _ _ _ _ _ _ _ _ _ _ _ _ _ _ _ _).mono ?_
    rintro _ w5 ⟨r,rfl,hB5,hr1,hrow⟩
    have hk75:=(hB5.block _ (HK.blk_lt HK74.out)).trans HK74.out
    have hz5:=(hB5.block _ (HK.blk_lt HZ4.out)).trans HZ4.out
    clear y0 y1 y2 y3 v0 v1 v2 v3
    have y0:=HK.blk_cell hk75 0
    have y1:=HK.blk_cell hk75 1
    have y2:=HK.blk_cell hk75 2
    have y3:=HK.blk_cell hk75 3
    have yf:=fun i => HK.blk_frozen hk75 i
    have HK75:=hid hk75
    have HZ5:=hid hz5
    have HB5:=hid hB5
    have HR1:=hid hr1
    have HROW:=hid hrow
    have HBW5:=hid (HBW4.out.trans (hB5.mono HBW4.out.size))
    clear hk75 hz5 hB5 hr1 hrow
    go_wp2_with (fail)
    go_roundw
    case rel =>
     have hin:=HIN2.out
     have hp1:kk + 1 <= plO yy2:=by cases yy2 <;> (simp only [inO] at hin; simp only [plO]; omega)
     have w34:w3.heap.size < w4.heap.size:=by rw [HW4.out]; simp
     have s35:=HB5.out.size
     have sr3:=HB3.out.size
     have hbr:=HBW.out.size
     have b7r:=HK.blk_lt HK7.out
     have h7:=HB7.out
     refine ⟨o3,m3,d3,plO yy2,e3,7,⟨#[]⟩,none,0,0,some ⟨r,0,none⟩,2,2,rfl,rfl,HS3.out,by have:=HSK2.out; omega,pset4 HK75.out _ _ _ _,below4 HBW5.out (by omega) _ _ _ _,(heap4 (by omega) _ _ _ _).trans HZ5.out,?_⟩
     rcases HYX2.out with ⟨ob,k1,hy,hx⟩ | ⟨k1,e,hy,hx⟩
     ·left
      refine ⟨by rw [HE3.out,hy]; rfl,Op2 (lvO 0) f (fmO ob),m',by have:=HM.out; omega,by rw [hy]; exact hx,?_⟩
      have hold:∀ j,j < wr.heap.size -> w5.heap[j]? = wr.heap[j]?:=fun j hj => by
       rw [HB5.out.block _ (by omega),HW4.out,Below.heap_alloc _ _ _ (by omega),HB3.out.block _ hj]
      have hf:=HFM.out.turn (T:=RS w b7 w5) (W':=w5) fun j hj => ⟨⟨hj.1,by have:=hj.2.1; omega,hj.2.2⟩,hold j hj.2.1⟩
      have hf2:=(HF3.out ob k1 hy).turn (T:=RS w b7 w5) (W':=w5) fun j hj => by
       have h1:=hj.1
       have h2:=hj.2
       refine ⟨⟨by omega,by omega,by omega⟩,?_⟩
       rw [HB5.out.block _ (by omega),HW4.out,Below.heap_alloc _ _ _ (by omega)]
      have h2:=two_S (op:=7) (by omega) hf hf2 HROW.out ⟨by have:=HR1.out; omega,HK.blk_lt HROW.out,by have:=HR1.out; omega⟩
      exact h2.turn fun j hj => ⟨⟨hj.1,by rw [size4]; exact hj.2.1,hj.2.2⟩,heap4 hj.2.2 _ _ _ _⟩
     ·right
      rw [hy] at hin
      simp only [inO] at hin
      exact ⟨e,by rw [HE3.out,hy]; rfl,by omega,by rw [hy]; exact hx⟩
    case measure =>
     have hin:=HIN2.out
     have hp1:kk + 1 <= plO yy2:=by cases yy2 <;> (simp only [inO] at hin; simp only [plO]; omega)
     have h1:=HS3.out.hn
     have h2:=HSL.out.hn
     have h3:kk <= z:=HSL.out.hk
     simp only [sLen,sFlag,if_true]
     split <;> omega
   ·rw [if_neg htx] at hrun
    have hx:x = .ok (.fm f) kk:=by cases hrun; rfl
    have HX:=hid hx
    have HFM:=hid hfm
    have hfalse:decide (txt ts kk = lvS 0) = false:=decide_eq_false htx
    rw [hfalse] at HSG
    clear hrun hlt hfm htx hsgn hx hfalse hS hsk hBW
    have y0:=HK.blk_cell hk7 0
    have y1:=HK.blk_cell hk7 1
    have y2:=HK.blk_cell hk7 2
    have y3:=HK.blk_cell hk7 3
    have u0:=HK.blk_cell hz 0
    have u1:=HK.blk_cell hz 1
    have u2:=HK.blk_cell hz 2
    have u3:=HK.blk_cell hz 3
    have uf:=fun i => HK.blk_frozen hz i
    have HZ:=hid hz
    clear hk7 hz
    go_wp2_with (go_at_call 44; ((with_reducible refine HSG.out.mono ?_); rintro _ w9 ⟨rfl,rfl⟩))
    refine bodyPost_ret (results_c1t2 (p:=4) (u:=5) (v:=6) (ty:=28) (by kernel_rfl) _ _ w.heap.size 28 _ (0,0) _ _ _ rfl rfl rfl (pset4 HZ.out _ _ _ _) Tryz.underlying28 rfl (by kernel_rfl)) rfl ?_
    exact ⟨below4 HBW.out (Nat.le_refl _) _ _ _ _,_,_,_,_,_,_,_,_,_,_,_,_,rfl,by rw [HX.out]; rfl,by rw [HX.out]; exact HSL.out,fun ob k h => by rw [HX.out] at h; cases h; exact fin_box HFM.out _ _ _ _⟩
  ·subst her
   have HX:=hid hx
   have hen:((e:Int) == 0) = false:=by simp; omega
   have y0:=HK.blk_cell hk7 0
   have y1:=HK.blk_cell hk7 1
   have y2:=HK.blk_cell hk7 2
   have y3:=HK.blk_cell hk7 3
   have u0:=HK.blk_cell hz 0
   have u1:=HK.blk_cell hz 1
   have u2:=HK.blk_cell hz 2
   have u3:=HK.blk_cell hz 3
   have uf:=fun i => HK.blk_frozen hz i
   have HZ:=hid hz
   clear hx he0 hk7 hz hS hsk hBW
   go_wp2_with (fail)
   refine bodyPost_ret (results_c1t2 (p:=4) (u:=5) (v:=6) (ty:=28) (by kernel_rfl) _ _ w.heap.size 28 _ (0,0) _ _ _ rfl rfl rfl (pset4 HZ.out _ _ _ _) Tryz.underlying28 rfl (by kernel_rfl)) rfl ?_
   exact ⟨below4 HBW.out (Nat.le_refl _) _ _ _ _,_,_,_,_,_,_,_,_,_,_,_,_,rfl,by rw [HX.out]; rfl,by rw [HX.out]; exact HSL.out,fun ob k h => by rw [HX.out] at h; cases h⟩
set_option maxRecDepth 100000 in
set_option maxHeartbeats 8000000 in
theorem lev3 {ts:List Tok} {z g n:Nat} (hN:LC ts z g n 127 (.bin 4)):LC ts z g (n + 1) 123 (.bin 3):=by
 intro k s x hr w o nn c hT hS hsk
 unfold run at hr
 simp only [show ((3:Nat) < 5) = True by simp,if_true,show lvR 3 = false by decide,Bool.false_eq_true,if_false] at hr
 have hE:=hT.ok.en
 have hz6:=hT.ok.le
 have s6:(s:Int) <= 100000:=by have:=hS.hk; omega
 have s0:(0:Int) <= (s:Int):=by omega
 obtain ⟨y,hy,hyx⟩:∃ y,run true ts n (.bin 4) k s = some y /\ ((∃ ob k1,y = .ok ob k1 /\ run true ts n (.loop 3 (fmO ob)) k1 s = some x) ∨ (∃ k1 e,y = .bad k1 e /\ x = .bad k1 e)):=by
  rcases thenO_some hr with ⟨ob,k1,h1,h2⟩ | ⟨k1,e,h1,h2⟩
  ·exact ⟨_,h1,.inl ⟨ob,k1,rfl,h2⟩⟩
  ·exact ⟨_,h1,.inr ⟨k1,e,rfl,h2⟩⟩
 have hin:=run_iz hE n _ _ _ _ hS.hk hy
 have hcy:=fun (W:World) (hB:Below w.heap.size w W) => hN k s y hy W o nn c (hT.up hB) hS hsk
 have HCY:=hid hcy
 have HYX:=hid hyx
 have HIN:=hid hin
 have HT:=hid hT
 have HNN:=hid hN
 have HZ6:=hid hz6
 have HSK:=hid hsk
 clear hr hy hyx hin hcy hT hN hS hE hz6 hsk
 unfold RetRF at HCY
 go_enter Tryz.func123,Tryz.ntmps123
 go_wp2_with (fail)
 go_at_call 127
 with_reducible refine (HCY.out _ (bl_al9 _)).mono ?_
 rintro _ w2 ⟨hB2,po,pn,pa,pb,pc,pd,pe,pf,o1,n1,c1,e1,rfl,her,hsl,hfm⟩
 have hz0:=(hB2.block _ (HK.blk_lt (HK.blk_new w (.cells #[.int .u8 0,.string ⟨#[]⟩,.slice none 0 0,.slice none 0 0] 28)))).trans (HK.blk_new w (.cells #[.int .u8 0,.string ⟨#[]⟩,.slice none 0 0,.slice none 0 0] 28))
 have HB2:=hid ((bl_al9 (W:=w) (.cells #[.int .u8 0,.string ⟨#[]⟩,.slice none 0 0,.slice none 0 0] 28)).trans (hB2.mono (bl_al9 (W:=w) (.cells #[.int .u8 0,.string ⟨#[]⟩,.slice none 0 0,.slice none 0 0] 28)).size))
 have hI:LvI ts z g 3 n s x w w2.heap.size (w2.alloc (.cells #[.int .u8 po,.string pn,.slice pa pb pc,.slice pd pe pf] 28)) (.slice (some ⟨g,o1,none⟩) n1 c1) (.int .i64 e1):=by
  refine ⟨o1,n1,c1,plO y,e1,po,pn,pa,pb,pc,pd,pe,pf,rfl,rfl,hsl,?_,HK.blk_new _ _,HB2.out.alloc HB2.out.size _,HK.blk_alloc hz0 _,?_⟩
  ·have h1:=HIN.out
   have h2:=HSK.out
   cases y <;> (simp only [inO] at h1; simp only [plO]; omega)
  ·rcases HYX.out with ⟨ob,k1,rfl,hx⟩ | ⟨k1,e,rfl,hx⟩
   ·left
    refine ⟨her,fmO ob,n,Nat.le_refl _,hx,(hfm ob k1 rfl).turn fun j hj => ⟨⟨?_,?_,?_⟩,Below.heap_alloc _ _ _ hj.2⟩⟩
    ·have:=hj.1; simp only [World.size_alloc] at this; omega
    ·have:=hj.2; simp only [World.size_alloc]; omega
    ·have:=hj.2; omega
   ·right
    have h1:=HIN.out
    simp only [inO] at h1
    exact ⟨e,her,by omega,hx⟩
 have HI:=hid hI
 obtain ⟨b7,hb7⟩:∃ b,b = w2.heap.size:=⟨_,rfl⟩
 rw [<- hb7] at HI
 have HB7:Hid (w.heap.size < b7):=hid (by rw [hb7]; have:=hB2.size; simp only [World.size_alloc] at this; omega)
 clear hI her hsl hfm hz0 hB2
 go_upto_region 2 with (fail)
 rw [<- hb7]
 clear hb7
 go_loopw [0,8] (fun v0 v8 wr => LvI ts z g 3 n s x w b7 wr v0 v8) (fun v0 v8 _ => sLen v0 + sFlag v8)
 case atStart => exact HI.out
 case round =>
  obtain ⟨o,nn,c,kk,er,qo,qn,qa,qb,qc,qd,qe,qf,rfl,rfl,hS,hsk,hk7,hBW,hz,hst⟩:=hrel
  have HBW:=hid hBW
  have HSL:=hid hS
  have HSK2:=hid hsk
  have hne7:¬ b7 = w.heap.size:=by have:=HB7.out; omega
  rcases hst with ⟨her,f,m,hm,hrun,hfm⟩ | ⟨e,her,he0,hx⟩
  ·subst her
   have hsgn:=rsg_call (HT.out.up hBW) hS ⟨#[124]⟩ (by unfold Sg; decide)
   rw [show bys (⟨#[124]⟩:ByteArray) = lvS 3 from rfl] at hsgn
   have HSG:=hid hsgn
   have hlt:txt ts kk = lvS 3 -> kk < z:=fun h => HT.out.ok.en.lt hS.hk (by rw [h]; exact lvS_ne 3)
   have hnx:∃ m',m = m' + 1:=by
    cases m with
    | zero => cases hrun
    | succ m' => exact ⟨m',rfl⟩
   obtain ⟨m',rfl⟩:=hnx
   unfold run at hrun
   by_cases htx:txt ts kk = lvS 3
   ·rw [if_pos htx] at hrun
    obtain ⟨yy2,hy2,hyx2⟩:∃ yy2,run true ts m' (.bin 4) (kk + 1) s = some yy2 /\ ((∃ ob k1,yy2 = .ok ob k1 /\ run true ts m' (.loop 3 (Op2 (lvO 3) f (fmO ob))) k1 s = some x) ∨ (∃ k1 e,yy2 = .bad k1 e /\ x = .bad k1 e)):=by
     rcases thenO_some hrun with ⟨ob,k1,h1,h2⟩ | ⟨k1,e,h1,h2⟩
     ·exact ⟨_,h1,.inl ⟨ob,k1,rfl,h2⟩⟩
     ·exact ⟨_,h1,.inr ⟨k1,e,rfl,h2⟩⟩
    have hkz:=hlt htx
    have hin2:=run_iz HT.out.ok.en m' _ _ _ _ hkz hy2
    have hc2:=fun (W:World) (hB:Below w.heap.size w W) (o' n' c':Nat) (hS':SlT' z (kk + 1) o' n' c') => HNN.out.le (Nat.le_trans (Nat.le_succ m') hm) (kk + 1) s yy2 hy2 W o' n' c' (HT.out.up hB) hS' (by omega)
    unfold RetRF at hc2
    have HC2:=hid hc2
    have HYX2:=hid hyx2
    have HIN2:=hid hin2
    have HFM:=hid hfm
    have HM:=hid hm
    have HTX:=hid htx
    have n1:(1:Int) <= (nn:Int):=by have:=hS.hn; omega
    have n2:(nn:Int) <= (c:Int):=by have:=hS.hc; omega
    have c1:(1:Int) <= (c:Int):=by omega
    have n3:(1:Int) < (nn:Int):=by have:=hS.hn; omega
    have c3:(1:Int) < (c:Int):=by omega
    have hsl1:SlT' z (kk + 1) (o + 3) (nn - 1) (c - 1):=⟨by have:=hS.ho; omega,by have:=hS.hn; omega,by have:=hS.hc; omega,hkz⟩
    have HS1:=hid hsl1
    have HZ:=hid hz
    have HK7:=hid hk7
    have htrue:decide (txt ts kk = lvS 3) = true:=decide_eq_true htx
    rw [htrue] at HSG
    clear hrun hlt hy2 hyx2 hin2 hfm hm htx hc2 hkz hsgn hS hsl1 hsk hz hk7 hBW htrue
    go_wp2_with (go_at_call 44; ((with_reducible refine HSG.out.mono ?_); rintro _ w9 ⟨rfl,rfl⟩))
    go_at_call 127
    with_reducible refine (HC2.out wr HBW.out (o + 3) (nn - 1) (c - 1) HS1.out).mono ?_
    rintro _ w3 ⟨hB3,ro,rn,ra,rb,rc,rd,re,rf,o3,m3,d3,e3,rfl,her3,hsl3,hfm3⟩
    have hk7:=HK.blk_alloc ((hB3.block _ (HK.blk_lt HK7.out)).trans HK7.out) (.cells #[.int .u8 ro,.string rn,.slice ra rb rc,.slice rd re rf] 28)
    have hz4:=HK.blk_alloc ((hB3.block _ (HK.blk_lt HZ.out)).trans HZ.out) (.cells #[.int .u8 ro,.string rn,.slice ra rb rc,.slice rd re rf] 28)
    have hk9:=HK.blk_new w3 (.cells #[.int .u8 ro,.string rn,.slice ra rb rc,.slice rd re rf] 28)
    have HBW4:=hid ((HBW.out.trans (hB3.mono HBW.out.size)).alloc (HBW.out.trans (hB3.mono HBW.out.size)).size (.cells #[.int .u8 ro,.string rn,.slice ra rb rc,.slice rd re rf] 28))
    have HB3:=hid hB3
    have HE3:=hid her3
    have HS3:=hid hsl3
    have HF3:=hid hfm3
    have HZ4:=hid hz4
    have HK74:=hid hk7
    clear hB3 her3 hsl3 hfm3 hz4 n1 n2 n3 c1 c3
    go_upto_region 4 with (fail)
    obtain ⟨b9,hb9⟩:∃ b,b = w3.heap.size:=⟨_,rfl⟩
    rw [<- hb9] at hk9 ⊢
    obtain ⟨w4,hw4⟩:∃ x,x = w3.alloc (.cells #[.int .u8 ro,.string rn,.slice ra rb rc,.slice rd re rf] 28):=⟨_,rfl⟩
    rw [<- hw4] at HK74 HZ4 hk7 hk9 HBW4 ⊢
    have HW4:=hid hw4
    have HB9:=hid hb9
    clear hw4 hb9
    have y0:=HK.blk_cell hk7 0
    have y1:=HK.blk_cell hk7 1
    have y2:=HK.blk_cell hk7 2
    have y3:=HK.blk_cell hk7 3
    have v0:=HK.blk_cell hk9 0
    have v1:=HK.blk_cell hk9 1
    have v2:=HK.blk_cell hk9 2
    have v3:=HK.blk_cell hk9 3
    clear hk7 hk9
    go_wp2_with (fail)
    go_at_call 76
    with_reducible refine (two_call _ _ _ _ _ _ _ _ _ _ _ _ _ _ _ _ _ _).mono ?_
    rintro _ w5 ⟨r,rfl,hB5,hr1,hrow⟩
    have hk75:=(hB5.block _ (HK.blk_lt HK74.out)).trans HK74.out
    have hz5:=(hB5.block _ (HK.blk_lt HZ4.out)).trans HZ4.out
    clear y0 y1 y2 y3 v0 v1 v2 v3
    have y0:=HK.blk_cell hk75 0
    have y1:=HK.blk_cell hk75 1
    have y2:=HK.blk_cell hk75 2
    have y3:=HK.blk_cell hk75 3
    have yf:=fun i => HK.blk_frozen hk75 i
    have HK75:=hid hk75
    have HZ5:=hid hz5
    have HB5:=hid hB5
    have HR1:=hid hr1
    have HROW:=hid hrow
    have HBW5:=hid (HBW4.out.trans (hB5.mono HBW4.out.size))
    clear hk75 hz5 hB5 hr1 hrow
    go_wp2_with (fail)
    go_roundw
    case rel =>
     have hin:=HIN2.out
     have hp1:kk + 1 <= plO yy2:=by cases yy2 <;> (simp only [inO] at hin; simp only [plO]; omega)
     have w34:w3.heap.size < w4.heap.size:=by rw [HW4.out]; simp
     have s35:=HB5.out.size
     have sr3:=HB3.out.size
     have hbr:=HBW.out.size
     have b7r:=HK.blk_lt HK7.out
     have h7:=HB7.out
     refine ⟨o3,m3,d3,plO yy2,e3,5,⟨#[]⟩,none,0,0,some ⟨r,0,none⟩,2,2,rfl,rfl,HS3.out,by have:=HSK2.out; omega,pset4 HK75.out _ _ _ _,below4 HBW5.out (by omega) _ _ _ _,(heap4 (by omega) _ _ _ _).trans HZ5.out,?_⟩
     rcases HYX2.out with ⟨ob,k1,hy,hx⟩ | ⟨k1,e,hy,hx⟩
     ·left
      refine ⟨by rw [HE3.out,hy]; rfl,Op2 (lvO 3) f (fmO ob),m',by have:=HM.out; omega,by rw [hy]; exact hx,?_⟩
      have hold:∀ j,j < wr.heap.size -> w5.heap[j]? = wr.heap[j]?:=fun j hj => by
       rw [HB5.out.block _ (by omega),HW4.out,Below.heap_alloc _ _ _ (by omega),HB3.out.block _ hj]
      have hf:=HFM.out.turn (T:=RS w b7 w5) (W':=w5) fun j hj => ⟨⟨hj.1,by have:=hj.2.1; omega,hj.2.2⟩,hold j hj.2.1⟩
      have hf2:=(HF3.out ob k1 hy).turn (T:=RS w b7 w5) (W':=w5) fun j hj => by
       have h1:=hj.1
       have h2:=hj.2
       refine ⟨⟨by omega,by omega,by omega⟩,?_⟩
       rw [HB5.out.block _ (by omega),HW4.out,Below.heap_alloc _ _ _ (by omega)]
      have h2:=two_S (op:=5) (by omega) hf hf2 HROW.out ⟨by have:=HR1.out; omega,HK.blk_lt HROW.out,by have:=HR1.out; omega⟩
      exact h2.turn fun j hj => ⟨⟨hj.1,by rw [size4]; exact hj.2.1,hj.2.2⟩,heap4 hj.2.2 _ _ _ _⟩
     ·right
      rw [hy] at hin
      simp only [inO] at hin
      exact ⟨e,by rw [HE3.out,hy]; rfl,by omega,by rw [hy]; exact hx⟩
    case measure =>
     have hin:=HIN2.out
     have hp1:kk + 1 <= plO yy2:=by cases yy2 <;> (simp only [inO] at hin; simp only [plO]; omega)
     have h1:=HS3.out.hn
     have h2:=HSL.out.hn
     have h3:kk <= z:=HSL.out.hk
     simp only [sLen,sFlag,if_true]
     split <;> omega
   ·rw [if_neg htx] at hrun
    have hx:x = .ok (.fm f) kk:=by cases hrun; rfl
    have HX:=hid hx
    have HFM:=hid hfm
    have hfalse:decide (txt ts kk = lvS 3) = false:=decide_eq_false htx
    rw [hfalse] at HSG
    clear hrun hlt hfm htx hsgn hx hfalse hS hsk hBW
    have y0:=HK.blk_cell hk7 0
    have y1:=HK.blk_cell hk7 1
    have y2:=HK.blk_cell hk7 2
    have y3:=HK.blk_cell hk7 3
    have u0:=HK.blk_cell hz 0
    have u1:=HK.blk_cell hz 1
    have u2:=HK.blk_cell hz 2
    have u3:=HK.blk_cell hz 3
    have uf:=fun i => HK.blk_frozen hz i
    have HZ:=hid hz
    clear hk7 hz
    go_wp2_with (go_at_call 44; ((with_reducible refine HSG.out.mono ?_); rintro _ w9 ⟨rfl,rfl⟩))
    refine bodyPost_ret (results_c1t2 (p:=4) (u:=5) (v:=6) (ty:=28) (by kernel_rfl) _ _ w.heap.size 28 _ (0,0) _ _ _ rfl rfl rfl (pset4 HZ.out _ _ _ _) Tryz.underlying28 rfl (by kernel_rfl)) rfl ?_
    exact ⟨below4 HBW.out (Nat.le_refl _) _ _ _ _,_,_,_,_,_,_,_,_,_,_,_,_,rfl,by rw [HX.out]; rfl,by rw [HX.out]; exact HSL.out,fun ob k h => by rw [HX.out] at h; cases h; exact fin_box HFM.out _ _ _ _⟩
  ·subst her
   have HX:=hid hx
   have hen:((e:Int) == 0) = false:=by simp; omega
   have y0:=HK.blk_cell hk7 0
   have y1:=HK.blk_cell hk7 1
   have y2:=HK.blk_cell hk7 2
   have y3:=HK.blk_cell hk7 3
   have u0:=HK.blk_cell hz 0
   have u1:=HK.blk_cell hz 1
   have u2:=HK.blk_cell hz 2
   have u3:=HK.blk_cell hz 3
   have uf:=fun i => HK.blk_frozen hz i
   have HZ:=hid hz
   clear hx he0 hk7 hz hS hsk hBW
   go_wp2_with (fail)
   refine bodyPost_ret (results_c1t2 (p:=4) (u:=5) (v:=6) (ty:=28) (by kernel_rfl) _ _ w.heap.size 28 _ (0,0) _ _ _ rfl rfl rfl (pset4 HZ.out _ _ _ _) Tryz.underlying28 rfl (by kernel_rfl)) rfl ?_
   exact ⟨below4 HBW.out (Nat.le_refl _) _ _ _ _,_,_,_,_,_,_,_,_,_,_,_,_,rfl,by rw [HX.out]; rfl,by rw [HX.out]; exact HSL.out,fun ob k h => by rw [HX.out] at h; cases h⟩
set_option maxRecDepth 100000 in
set_option maxHeartbeats 8000000 in
theorem lev4 {ts:List Tok} {z g n:Nat} (hN:LC ts z g n 135 (.bin 5)):LC ts z g (n + 1) 127 (.bin 4):=by
 intro k s x hr w o nn c hT hS hsk
 unfold run at hr
 simp only [show ((4:Nat) < 5) = True by simp,if_true,show lvR 4 = false by decide,Bool.false_eq_true,if_false] at hr
 have hE:=hT.ok.en
 have hz6:=hT.ok.le
 have s6:(s:Int) <= 100000:=by have:=hS.hk; omega
 have s0:(0:Int) <= (s:Int):=by omega
 obtain ⟨y,hy,hyx⟩:∃ y,run true ts n (.bin 5) k s = some y /\ ((∃ ob k1,y = .ok ob k1 /\ run true ts n (.loop 4 (fmO ob)) k1 s = some x) ∨ (∃ k1 e,y = .bad k1 e /\ x = .bad k1 e)):=by
  rcases thenO_some hr with ⟨ob,k1,h1,h2⟩ | ⟨k1,e,h1,h2⟩
  ·exact ⟨_,h1,.inl ⟨ob,k1,rfl,h2⟩⟩
  ·exact ⟨_,h1,.inr ⟨k1,e,rfl,h2⟩⟩
 have hin:=run_iz hE n _ _ _ _ hS.hk hy
 have hcy:=fun (W:World) (hB:Below w.heap.size w W) => hN k s y hy W o nn c (hT.up hB) hS hsk
 have HCY:=hid hcy
 have HYX:=hid hyx
 have HIN:=hid hin
 have HT:=hid hT
 have HNN:=hid hN
 have HZ6:=hid hz6
 have HSK:=hid hsk
 clear hr hy hyx hin hcy hT hN hS hE hz6 hsk
 unfold RetRF at HCY
 go_enter Tryz.func127,Tryz.ntmps127
 go_wp2_with (fail)
 go_at_call 135
 with_reducible refine (HCY.out _ (bl_al9 _)).mono ?_
 rintro _ w2 ⟨hB2,po,pn,pa,pb,pc,pd,pe,pf,o1,n1,c1,e1,rfl,her,hsl,hfm⟩
 have hz0:=(hB2.block _ (HK.blk_lt (HK.blk_new w (.cells #[.int .u8 0,.string ⟨#[]⟩,.slice none 0 0,.slice none 0 0] 28)))).trans (HK.blk_new w (.cells #[.int .u8 0,.string ⟨#[]⟩,.slice none 0 0,.slice none 0 0] 28))
 have HB2:=hid ((bl_al9 (W:=w) (.cells #[.int .u8 0,.string ⟨#[]⟩,.slice none 0 0,.slice none 0 0] 28)).trans (hB2.mono (bl_al9 (W:=w) (.cells #[.int .u8 0,.string ⟨#[]⟩,.slice none 0 0,.slice none 0 0] 28)).size))
 have hI:LvI ts z g 4 n s x w w2.heap.size (w2.alloc (.cells #[.int .u8 po,.string pn,.slice pa pb pc,.slice pd pe pf] 28)) (.slice (some ⟨g,o1,none⟩) n1 c1) (.int .i64 e1):=by
  refine ⟨o1,n1,c1,plO y,e1,po,pn,pa,pb,pc,pd,pe,pf,rfl,rfl,hsl,?_,HK.blk_new _ _,HB2.out.alloc HB2.out.size _,HK.blk_alloc hz0 _,?_⟩
  ·have h1:=HIN.out
   have h2:=HSK.out
   cases y <;> (simp only [inO] at h1; simp only [plO]; omega)
  ·rcases HYX.out with ⟨ob,k1,rfl,hx⟩ | ⟨k1,e,rfl,hx⟩
   ·left
    refine ⟨her,fmO ob,n,Nat.le_refl _,hx,(hfm ob k1 rfl).turn fun j hj => ⟨⟨?_,?_,?_⟩,Below.heap_alloc _ _ _ hj.2⟩⟩
    ·have:=hj.1; simp only [World.size_alloc] at this; omega
    ·have:=hj.2; simp only [World.size_alloc]; omega
    ·have:=hj.2; omega
   ·right
    have h1:=HIN.out
    simp only [inO] at h1
    exact ⟨e,her,by omega,hx⟩
 have HI:=hid hI
 obtain ⟨b7,hb7⟩:∃ b,b = w2.heap.size:=⟨_,rfl⟩
 rw [<- hb7] at HI
 have HB7:Hid (w.heap.size < b7):=hid (by rw [hb7]; have:=hB2.size; simp only [World.size_alloc] at this; omega)
 clear hI her hsl hfm hz0 hB2
 go_upto_region 2 with (fail)
 rw [<- hb7]
 clear hb7
 go_loopw [0,8] (fun v0 v8 wr => LvI ts z g 4 n s x w b7 wr v0 v8) (fun v0 v8 _ => sLen v0 + sFlag v8)
 case atStart => exact HI.out
 case round =>
  obtain ⟨o,nn,c,kk,er,qo,qn,qa,qb,qc,qd,qe,qf,rfl,rfl,hS,hsk,hk7,hBW,hz,hst⟩:=hrel
  have HBW:=hid hBW
  have HSL:=hid hS
  have HSK2:=hid hsk
  have hne7:¬ b7 = w.heap.size:=by have:=HB7.out; omega
  rcases hst with ⟨her,f,m,hm,hrun,hfm⟩ | ⟨e,her,he0,hx⟩
  ·subst her
   have hsgn:=rsg_call (HT.out.up hBW) hS ⟨#[38]⟩ (by unfold Sg; decide)
   rw [show bys (⟨#[38]⟩:ByteArray) = lvS 4 from rfl] at hsgn
   have HSG:=hid hsgn
   have hlt:txt ts kk = lvS 4 -> kk < z:=fun h => HT.out.ok.en.lt hS.hk (by rw [h]; exact lvS_ne 4)
   have hnx:∃ m',m = m' + 1:=by
    cases m with
    | zero => cases hrun
    | succ m' => exact ⟨m',rfl⟩
   obtain ⟨m',rfl⟩:=hnx
   unfold run at hrun
   by_cases htx:txt ts kk = lvS 4
   ·rw [if_pos htx] at hrun
    obtain ⟨yy2,hy2,hyx2⟩:∃ yy2,run true ts m' (.bin 5) (kk + 1) s = some yy2 /\ ((∃ ob k1,yy2 = .ok ob k1 /\ run true ts m' (.loop 4 (Op2 (lvO 4) f (fmO ob))) k1 s = some x) ∨ (∃ k1 e,yy2 = .bad k1 e /\ x = .bad k1 e)):=by
     rcases thenO_some hrun with ⟨ob,k1,h1,h2⟩ | ⟨k1,e,h1,h2⟩
     ·exact ⟨_,h1,.inl ⟨ob,k1,rfl,h2⟩⟩
     ·exact ⟨_,h1,.inr ⟨k1,e,rfl,h2⟩⟩
    have hkz:=hlt htx
    have hin2:=run_iz HT.out.ok.en m' _ _ _ _ hkz hy2
    have hc2:=fun (W:World) (hB:Below w.heap.size w W) (o' n' c':Nat) (hS':SlT' z (kk + 1) o' n' c') => HNN.out.le (Nat.le_trans (Nat.le_succ m') hm) (kk + 1) s yy2 hy2 W o' n' c' (HT.out.up hB) hS' (by omega)
    unfold RetRF at hc2
    have HC2:=hid hc2
    have HYX2:=hid hyx2
    have HIN2:=hid hin2
    have HFM:=hid hfm
    have HM:=hid hm
    have HTX:=hid htx
    have n1:(1:Int) <= (nn:Int):=by have:=hS.hn; omega
    have n2:(nn:Int) <= (c:Int):=by have:=hS.hc; omega
    have c1:(1:Int) <= (c:Int):=by omega
    have n3:(1:Int) < (nn:Int):=by have:=hS.hn; omega
    have c3:(1:Int) < (c:Int):=by omega
    have hsl1:SlT' z (kk + 1) (o + 3) (nn - 1) (c - 1):=⟨by have:=hS.ho; omega,by have:=hS.hn; omega,by have:=hS.hc; omega,hkz⟩
    have HS1:=hid hsl1
    have HZ:=hid hz
    have HK7:=hid hk7
    have htrue:decide (txt ts kk = lvS 4) = true:=decide_eq_true htx
    rw [htrue] at HSG
    clear hrun hlt hy2 hyx2 hin2 hfm hm htx hc2 hkz hsgn hS hsl1 hsk hz hk7 hBW htrue
    go_wp2_with (go_at_call 44; ((with_reducible refine HSG.out.mono ?_); rintro _ w9 ⟨rfl,rfl⟩))
    go_at_call 135
    with_reducible refine (HC2.out wr HBW.out (o + 3) (nn - 1) (c - 1) HS1.out).mono ?_
    rintro _ w3 ⟨hB3,ro,rn,ra,rb,rc,rd,re,rf,o3,m3,d3,e3,rfl,her3,hsl3,hfm3⟩
    have hk7:=HK.blk_alloc ((hB3.block _ (HK.blk_lt HK7.out)).trans HK7.out) (.cells #[.int .u8 ro,.string rn,.slice ra rb rc,.slice rd re rf] 28)
    have hz4:=HK.blk_alloc ((hB3.block _ (HK.blk_lt HZ.out)).trans HZ.out) (.cells #[.int .u8 ro,.string rn,.slice ra rb rc,.slice rd re rf] 28)
    have hk9:=HK.blk_new w3 (.cells #[.int .u8 ro,.string rn,.slice ra rb rc,.slice rd re rf] 28)
    have HBW4:=hid ((HBW.out.trans (hB3.mono HBW.out.size)).alloc (HBW.out.trans (hB3.mono HBW.out.size)).size (.cells #[.int .u8 ro,.string rn,.slice ra rb rc,.slice rd re rf] 28))
    have HB3:=hid hB3
    have HE3:=hid her3
    have HS3:=hid hsl3
    have HF3:=hid hfm3
    have HZ4:=hid hz4
    have HK74:=hid hk7
    clear hB3 her3 hsl3 hfm3 hz4 n1 n2 n3 c1 c3
    go_upto_region 4 with (fail)
    obtain ⟨b9,hb9⟩:∃ b,b = w3.heap.size:=⟨_,rfl⟩
    rw [<- hb9] at hk9 ⊢
    obtain ⟨w4,hw4⟩:∃ x,x = w3.alloc (.cells #[.int .u8 ro,.string rn,.slice ra rb rc,.slice rd re rf] 28):=⟨_,rfl⟩
    rw [<- hw4] at HK74 HZ4 hk7 hk9 HBW4 ⊢
    have HW4:=hid hw4
    have HB9:=hid hb9
    clear hw4 hb9
    have y0:=HK.blk_cell hk7 0
    have y1:=HK.blk_cell hk7 1
    have y2:=HK.blk_cell hk7 2
    have y3:=HK.blk_cell hk7 3
    have v0:=HK.blk_cell hk9 0
    have v1:=HK.blk_cell hk9 1
    have v2:=HK.blk_cell hk9 2
    have v3:=HK.blk_cell hk9 3
    clear hk7 hk9
    go_wp2_with (fail)
    go_at_call 76
    with_reducible refine (two_call _ _ _ _ _ _ _ _ _ _ _ _ _ _ _ _ _ _).mono ?_
    rintro _ w5 ⟨r,rfl,hB5,hr1,hrow⟩
    have hk75:=(hB5.block _ (HK.blk_lt HK74.out)).trans HK74.out
    have hz5:=(hB5.block _ (HK.blk_lt HZ4.out)).trans HZ4.out
    clear y0 y1 y2 y3 v0 v1 v2 v3
    have y0:=HK.blk_cell hk75 0
    have y1:=HK.blk_cell hk75 1
    have y2:=HK.blk_cell hk75 2
    have y3:=HK.blk_cell hk75 3
    have yf:=fun i => HK.blk_frozen hk75 i
    have HK75:=hid hk75
    have HZ5:=hid hz5
    have HB5:=hid hB5
    have HR1:=hid hr1
    have HROW:=hid hrow
    have HBW5:=hid (HBW4.out.trans (hB5.mono HBW4.out.size))
    clear hk75 hz5 hB5 hr1 hrow
    go_wp2_with (fail)
    go_roundw
    case rel =>
     have hin:=HIN2.out
     have hp1:kk + 1 <= plO yy2:=by cases yy2 <;> (simp only [inO] at hin; simp only [plO]; omega)
     have w34:w3.heap.size < w4.heap.size:=by rw [HW4.out]; simp
     have s35:=HB5.out.size
     have sr3:=HB3.out.size
     have hbr:=HBW.out.size
     have b7r:=HK.blk_lt HK7.out
     have h7:=HB7.out
     refine ⟨o3,m3,d3,plO yy2,e3,4,⟨#[]⟩,none,0,0,some ⟨r,0,none⟩,2,2,rfl,rfl,HS3.out,by have:=HSK2.out; omega,pset4 HK75.out _ _ _ _,below4 HBW5.out (by omega) _ _ _ _,(heap4 (by omega) _ _ _ _).trans HZ5.out,?_⟩
     rcases HYX2.out with ⟨ob,k1,hy,hx⟩ | ⟨k1,e,hy,hx⟩
     ·left
      refine ⟨by rw [HE3.out,hy]; rfl,Op2 (lvO 4) f (fmO ob),m',by have:=HM.out; omega,by rw [hy]; exact hx,?_⟩
      have hold:∀ j,j < wr.heap.size -> w5.heap[j]? = wr.heap[j]?:=fun j hj => by
       rw [HB5.out.block _ (by omega),HW4.out,Below.heap_alloc _ _ _ (by omega),HB3.out.block _ hj]
      have hf:=HFM.out.turn (T:=RS w b7 w5) (W':=w5) fun j hj => ⟨⟨hj.1,by have:=hj.2.1; omega,hj.2.2⟩,hold j hj.2.1⟩
      have hf2:=(HF3.out ob k1 hy).turn (T:=RS w b7 w5) (W':=w5) fun j hj => by
       have h1:=hj.1
       have h2:=hj.2
       refine ⟨⟨by omega,by omega,by omega⟩,?_⟩
       rw [HB5.out.block _ (by omega),HW4.out,Below.heap_alloc _ _ _ (by omega)]
      have h2:=two_S (op:=4) (by omega) hf hf2 HROW.out ⟨by have:=HR1.out; omega,HK.blk_lt HROW.out,by have:=HR1.out; omega⟩
      exact h2.turn fun j hj => ⟨⟨hj.1,by rw [size4]; exact hj.2.1,hj.2.2⟩,heap4 hj.2.2 _ _ _ _⟩
     ·right
      rw [hy] at hin
      simp only [inO] at hin
      exact ⟨e,by rw [HE3.out,hy]; rfl,by omega,by rw [hy]; exact hx⟩
    case measure =>
     have hin:=HIN2.out
     have hp1:kk + 1 <= plO yy2:=by cases yy2 <;> (simp only [inO] at hin; simp only [plO]; omega)
     have h1:=HS3.out.hn
     have h2:=HSL.out.hn
     have h3:kk <= z:=HSL.out.hk
     simp only [sLen,sFlag,if_true]
     split <;> omega
   ·rw [if_neg htx] at hrun
    have hx:x = .ok (.fm f) kk:=by cases hrun; rfl
    have HX:=hid hx
    have HFM:=hid hfm
    have hfalse:decide (txt ts kk = lvS 4) = false:=decide_eq_false htx
    rw [hfalse] at HSG
    clear hrun hlt hfm htx hsgn hx hfalse hS hsk hBW
    have y0:=HK.blk_cell hk7 0
    have y1:=HK.blk_cell hk7 1
    have y2:=HK.blk_cell hk7 2
    have y3:=HK.blk_cell hk7 3
    have u0:=HK.blk_cell hz 0
    have u1:=HK.blk_cell hz 1
    have u2:=HK.blk_cell hz 2
    have u3:=HK.blk_cell hz 3
    have uf:=fun i => HK.blk_frozen hz i
    have HZ:=hid hz
    clear hk7 hz
    go_wp2_with (go_at_call 44; ((with_reducible refine HSG.out.mono ?_); rintro _ w9 ⟨rfl,rfl⟩))
    refine bodyPost_ret (results_c1t2 (p:=4) (u:=5) (v:=6) (ty:=28) (by kernel_rfl) _ _ w.heap.size 28 _ (0,0) _ _ _ rfl rfl rfl (pset4 HZ.out _ _ _ _) Tryz.underlying28 rfl (by kernel_rfl)) rfl ?_
    exact ⟨below4 HBW.out (Nat.le_refl _) _ _ _ _,_,_,_,_,_,_,_,_,_,_,_,_,rfl,by rw [HX.out]; rfl,by rw [HX.out]; exact HSL.out,fun ob k h => by rw [HX.out] at h; cases h; exact fin_box HFM.out _ _ _ _⟩
  ·subst her
   have HX:=hid hx
   have hen:((e:Int) == 0) = false:=by simp; omega
   have y0:=HK.blk_cell hk7 0
   have y1:=HK.blk_cell hk7 1
   have y2:=HK.blk_cell hk7 2
   have y3:=HK.blk_cell hk7 3
   have u0:=HK.blk_cell hz 0
   have u1:=HK.blk_cell hz 1
   have u2:=HK.blk_cell hz 2
   have u3:=HK.blk_cell hz 3
   have uf:=fun i => HK.blk_frozen hz i
   have HZ:=hid hz
   clear hx he0 hk7 hz hS hsk hBW
   go_wp2_with (fail)
   refine bodyPost_ret (results_c1t2 (p:=4) (u:=5) (v:=6) (ty:=28) (by kernel_rfl) _ _ w.heap.size 28 _ (0,0) _ _ _ rfl rfl rfl (pset4 HZ.out _ _ _ _) Tryz.underlying28 rfl (by kernel_rfl)) rfl ?_
   exact ⟨below4 HBW.out (Nat.le_refl _) _ _ _ _,_,_,_,_,_,_,_,_,_,_,_,_,rfl,by rw [HX.out]; rfl,by rw [HX.out]; exact HSL.out,fun ob k h => by rw [HX.out] at h; cases h⟩
set_option maxRecDepth 100000 in
set_option maxHeartbeats 8000000 in
theorem lev1 {ts:List Tok} {z g n:Nat} (hN:LC ts z g n 105 (.bin 2)) (hM:LC ts z g n 75 (.bin 1)):LC ts z g (n + 1) 75 (.bin 1):=by
 intro k s x hr w o nn c hT hS hsk
 unfold run at hr
 simp only [show ((1:Nat) < 5) = True by simp,if_true,show lvR 1 = true by decide] at hr
 have hE:=hT.ok.en
 have hz6:=hT.ok.le
 have s6:(s:Int) <= 100000:=by have:=hS.hk; omega
 have s0:(0:Int) <= (s:Int):=by omega
 obtain ⟨y,hy,hyx⟩:∃ y,run true ts n (.bin 2) k s = some y /\ ((∃ ob k1,y = .ok ob k1 /\ (if txt ts k1 = lvS 1 then thenO (run true ts n (.bin 1) (k1 + 1) (s + 1)) fun o2 k2 => some (.ok (.fm (Op2 (lvO 1) (fmO ob) (fmO o2))) k2) else some (.ok (.fm (fmO ob)) k1)) = some x) ∨ (∃ k1 e,y = .bad k1 e /\ x = .bad k1 e)):=by
  rcases thenO_some hr with ⟨ob,k1,h1,h2⟩ | ⟨k1,e,h1,h2⟩
  ·exact ⟨_,h1,.inl ⟨ob,k1,rfl,h2⟩⟩
  ·exact ⟨_,h1,.inr ⟨k1,e,rfl,h2⟩⟩
 have hin:=run_iz hE n _ _ _ _ hS.hk hy
 have hcy:=fun (W:World) (hB:Below w.heap.size w W) => hN k s y hy W o nn c (hT.up hB) hS hsk
 have HCY:=hid hcy
 have HYX:=hid hyx
 have HIN:=hid hin
 have HT:=hid hT
 have HMM:=hid hM
 have HSK:=hid hsk
 clear hr hy hyx hin hcy hT hN hM hS hE hz6 hsk
 unfold RetRF at HCY
 go_enter Tryz.func75,Tryz.ntmps75
 go_wp2_with (fail)
 go_at_call 105
 with_reducible refine (HCY.out _ (bl_al9 _)).mono ?_
 rintro _ w2 ⟨hB2,po,pn,pa,pb,pc,pd,pe,pf,o1,m1,d1,e1,rfl,her,hsl,hfm⟩
 have HE:=hid her
 clear her
 have hz0:=HK.blk_alloc ((hB2.block _ (HK.blk_lt (HK.blk_new w (.cells #[.int .u8 0,.string ⟨#[]⟩,.slice none 0 0,.slice none 0 0] 28)))).trans (HK.blk_new w (.cells #[.int .u8 0,.string ⟨#[]⟩,.slice none 0 0,.slice none 0 0] 28))) (.cells #[.int .u8 po,.string pn,.slice pa pb pc,.slice pd pe pf] 28)
 have hk7:=HK.blk_new w2 (.cells #[.int .u8 po,.string pn,.slice pa pb pc,.slice pd pe pf] 28)
 have HB2:=hid ((bl_al9 (W:=w) (.cells #[.int .u8 0,.string ⟨#[]⟩,.slice none 0 0,.slice none 0 0] 28)).trans (hB2.mono (bl_al9 (W:=w) (.cells #[.int .u8 0,.string ⟨#[]⟩,.slice none 0 0,.slice none 0 0] 28)).size))
 have HBW:=hid (HB2.out.alloc HB2.out.size (.cells #[.int .u8 po,.string pn,.slice pa pb pc,.slice pd pe pf] 28))
 have hs2:=hB2.size
 simp only [World.size_alloc] at hs2
 go_upto_region 2 with (fail)
 obtain ⟨b7,hb7⟩:∃ b,b = w2.heap.size:=⟨_,rfl⟩
 have hfm3:∀ ob k,y = .ok ob k -> FmS (RS w b7 (w2.alloc (.cells #[.int .u8 po,.string pn,.slice pa pb pc,.slice pd pe pf] 28))) (w2.alloc (.cells #[.int .u8 po,.string pn,.slice pa pb pc,.slice pd pe pf] 28)) (fmO ob) (.agg #[.int .u8 po,.string pn,.slice pa pb pc,.slice pd pe pf]):=fun ob k h => (hfm ob k h).turn fun j hj => by
  have h1:=hj.1
  have h2:=hj.2
  simp only [World.size_alloc] at h1
  exact ⟨⟨by omega,by simp only [World.size_alloc]; omega,by omega⟩,Below.heap_alloc _ _ _ h2⟩
 rw [<- hb7] at hk7 ⊢
 obtain ⟨wr,hwr⟩:∃ x,x = w2.alloc (.cells #[.int .u8 po,.string pn,.slice pa pb pc,.slice pd pe pf] 28):=⟨_,rfl⟩
 rw [<- hwr] at hz0 hk7 HBW hfm3 ⊢
 have HFM:=hid hfm3
 have HZ:=hid hz0
 have HK7:=hid hk7
 have HSL:=hid hsl
 have HB7:Hid (w.heap.size < b7):=hid (by omega)
 have hne7:¬ b7 = w.heap.size:=by omega
 have y0:=HK.blk_cell hk7 0
 have y1:=HK.blk_cell hk7 1
 have y2:=HK.blk_cell hk7 2
 have y3:=HK.blk_cell hk7 3
 have u0:=HK.blk_cell hz0 0
 have u1:=HK.blk_cell hz0 1
 have u2:=HK.blk_cell hz0 2
 have u3:=HK.blk_cell hz0 3
 have uf:=fun i => HK.blk_frozen hz0 i
 clear hfm hfm3 hz0 hk7 hB2 hs2 hb7 hwr hsl
 rcases HYX.out with ⟨ob,k1,hy,hx⟩ | ⟨k1,e,hy,hx⟩
 ·have her0:e1 = 0:=by rw [HE.out,hy]; rfl
  subst her0
  have hk1:plO y = k1:=by rw [hy]; rfl
  have hS1:=HSL.out
  rw [hk1] at hS1
  have hin:=HIN.out
  rw [hy] at hin
  simp only [inO] at hin
  have hsgn:=rsg_call (HT.out.up HBW.out) hS1 ⟨#[45,62]⟩ (by unfold Sg; decide)
  rw [show bys (⟨#[45,62]⟩:ByteArray) = lvS 1 from rfl] at hsgn
  have HSG:=hid hsgn
  have hlt:txt ts k1 = lvS 1 -> k1 < z:=fun h => HT.out.ok.en.lt hS1.hk (by rw [h]; exact lvS_ne 1)
  have hf1:=HFM.out ob k1 hy
  have HF1:=hid hf1
  by_cases htx:txt ts k1 = lvS 1
  ·rw [if_pos htx] at hx
   have hkz:=hlt htx
   obtain ⟨yy2,hy2,hyx2⟩:∃ y2,run true ts n (.bin 1) (k1 + 1) (s + 1) = some y2 /\ ((∃ ob2 k2,y2 = .ok ob2 k2 /\ x = .ok (.fm (Op2 (lvO 1) (fmO ob) (fmO ob2))) k2) ∨ (∃ k2 e,y2 = .bad k2 e /\ x = .bad k2 e)):=by
    rcases thenO_some hx with ⟨ob2,k2,h1,h2⟩ | ⟨k2,e,h1,h2⟩
    ·exact ⟨_,h1,.inl ⟨ob2,k2,rfl,by cases h2; rfl⟩⟩
    ·exact ⟨_,h1,.inr ⟨k2,e,rfl,h2⟩⟩
   have hc2:=fun (o' n' c':Nat) (hS':SlT' z (k1 + 1) o' n' c') => HMM.out (k1 + 1) (s + 1) yy2 hy2 wr o' n' c' (HT.out.up HBW.out) hS' (by have:=HSK.out; omega)
   simp only [show (((s + 1:Nat)):Int) = (s:Int) + 1 from rfl] at hc2
   unfold RetRF at hc2
   have HC2:=hid hc2
   have HYX2:=hid hyx2
   have n1:(1:Int) <= (m1:Int):=by have:=hS1.hn; omega
   have n2:(m1:Int) <= (d1:Int):=by have:=hS1.hc; omega
   have c1:(1:Int) <= (d1:Int):=by omega
   have n3:(1:Int) < (m1:Int):=by have:=hS1.hn; omega
   have c3:(1:Int) < (d1:Int):=by omega
   have hsl1:SlT' z (k1 + 1) (o1 + 3) (m1 - 1) (d1 - 1):=⟨by have:=hS1.ho; omega,by have:=hS1.hn; omega,by have:=hS1.hc; omega,hkz⟩
   have HS1:=hid hsl1
   have htrue:decide (txt ts k1 = lvS 1) = true:=decide_eq_true htx
   rw [htrue] at HSG
   clear hx hlt hy2 hyx2 htx hc2 hkz hsgn hS1 hsl1 hin hf1 htrue hk1 hy u0 u1 u2 u3 uf y0 y1 y2 y3
   go_wp2_with (go_at_call 44; ((with_reducible refine HSG.out.mono ?_); rintro _ w9 ⟨rfl,rfl⟩))
   go_at_call 75
   with_reducible refine (HC2.out (o1 + 3) (m1 - 1) (d1 - 1) HS1.out).mono ?_
   rintro _ w3 ⟨hB3,ro,rn,ra,rb,rc,rd,re,rf,o3,m3,d3,e3,rfl,her3,hsl3,hfm3⟩
   have hk7:=HK.blk_alloc ((hB3.block _ (HK.blk_lt HK7.out)).trans HK7.out) (.cells #[.int .u8 ro,.string rn,.slice ra rb rc,.slice rd re rf] 28)
   have hz4:=HK.blk_alloc ((hB3.block _ (HK.blk_lt HZ.out)).trans HZ.out) (.cells #[.int .u8 ro,.string rn,.slice ra rb rc,.slice rd re rf] 28)
   have hk9:=HK.blk_new w3 (.cells #[.int .u8 ro,.string rn,.slice ra rb rc,.slice rd re rf] 28)
   have HBW4:=hid ((HBW.out.trans (hB3.mono HBW.out.size)).alloc (HBW.out.trans (hB3.mono HBW.out.size)).size (.cells #[.int .u8 ro,.string rn,.slice ra rb rc,.slice rd re rf] 28))
   have HB3:=hid hB3
   have HE3:=hid her3
   have HS3:=hid hsl3
   have HF3:=hid hfm3
   have HZ4:=hid hz4
   clear hB3 her3 hsl3 hfm3 hz4 n1 n2 n3 c1 c3
   go_upto_region 5 with (fail)
   obtain ⟨b9,hb9⟩:∃ b,b = w3.heap.size:=⟨_,rfl⟩
   rw [<- hb9] at hk9 ⊢
   obtain ⟨w4,hw4⟩:∃ x,x = w3.alloc (.cells #[.int .u8 ro,.string rn,.slice ra rb rc,.slice rd re rf] 28):=⟨_,rfl⟩
   rw [<- hw4] at HZ4 hk7 hk9 HBW4 ⊢
   have HW4:=hid hw4
   have HB9:=hid hb9
   clear hw4 hb9
   have y0:=HK.blk_cell hk7 0
   have y1:=HK.blk_cell hk7 1
   have y2:=HK.blk_cell hk7 2
   have y3:=HK.blk_cell hk7 3
   have v0:=HK.blk_cell hk9 0
   have v1:=HK.blk_cell hk9 1
   have v2:=HK.blk_cell hk9 2
   have v3:=HK.blk_cell hk9 3
   clear hk7 hk9
   go_wp2_with (fail)
   go_at_call 76
   with_reducible refine (two_call _ _ _ _ _ _ _ _ _ _ _ _ _ _ _ _ _ _).mono ?_
   rintro _ w5 ⟨r,rfl,hB5,hr1,hrow⟩
   have hz5:=(hB5.block _ (HK.blk_lt HZ4.out)).trans HZ4.out
   clear y0 y1 y2 y3 v0 v1 v2 v3
   have u0:=HK.blk_cell hz5 0
   have u1:=HK.blk_cell hz5 1
   have u2:=HK.blk_cell hz5 2
   have u3:=HK.blk_cell hz5 3
   have uf:=fun i => HK.blk_frozen hz5 i
   have HZ5:=hid hz5
   have HB5:=hid hB5
   have HR1:=hid hr1
   have HROW:=hid hrow
   have HBW5:=hid (HBW4.out.trans (hB5.mono HBW4.out.size))
   clear hz5 hB5 hr1 hrow HZ
   have HZ:=HZ5
   go_wp2_with (fail)
   refine bodyPost_ret (results_c1t2 (p:=4) (u:=5) (v:=6) (ty:=28) (by kernel_rfl) _ _ w.heap.size 28 _ (0,0) _ _ _ rfl rfl rfl (pset4 HZ.out _ _ _ _) Tryz.underlying28 rfl (by kernel_rfl)) rfl ?_
   have hstate:erO x = e3 /\ plO x = plO yy2:=by
    rcases HYX2.out with ⟨ob2,k2,hy,hx⟩ | ⟨k2,e,hy,hx⟩
    ·exact ⟨by rw [HE3.out,hy,hx] <;> rfl,by rw [hy,hx] <;> rfl⟩
    ·exact ⟨by rw [HE3.out,hy,hx] <;> rfl,by rw [hy,hx] <;> rfl⟩
   refine ⟨below4 HBW5.out (Nat.le_refl _) _ _ _ _,_,_,_,_,_,_,_,_,_,_,_,_,rfl,hstate.1.symm,by rw [hstate.2]; exact HS3.out,fun ob' k' h => ?_⟩
   rcases HYX2.out with ⟨ob2,k2,hy,hx⟩ | ⟨k2,e,hy,hx⟩
   ·rw [hx] at h
    cases h
    have w34:w3.heap.size < w4.heap.size:=by rw [HW4.out]; simp
    have s35:=HB5.out.size
    have sr3:=HB3.out.size
    have hbr:=HBW.out.size
    have b7r:=HK.blk_lt HK7.out
    have h7:=HB7.out
    have hold:∀ j,j < wr.heap.size -> w5.heap[j]? = wr.heap[j]?:=fun j hj => by
     rw [HB5.out.block _ (by omega),HW4.out,Below.heap_alloc _ _ _ (by omega),HB3.out.block _ hj]
    have hf:=HF1.out.turn (T:=RS w b7 w5) (W':=w5) fun j hj => ⟨⟨hj.1,by have:=hj.2.1; omega,hj.2.2⟩,hold j hj.2.1⟩
    have hf2:=(HF3.out ob2 _ hy).turn (T:=RS w b7 w5) (W':=w5) fun j hj => by
     have h1:=hj.1
     have h2:=hj.2
     refine ⟨⟨by omega,by omega,by omega⟩,?_⟩
     rw [HB5.out.block _ (by omega),HW4.out,Below.heap_alloc _ _ _ (by omega)]
    have h2:=two_S (op:=6) (by omega) hf hf2 HROW.out ⟨by have:=HR1.out; omega,HK.blk_lt HROW.out,by have:=HR1.out; omega⟩
    exact fin_box h2 _ _ _ _
   ·rw [hx] at h; cases h
  ·rw [if_neg htx] at hx
   have hx2:x = .ok (.fm (fmO ob)) k1:=by cases hx; rfl
   have HX:=hid hx2
   have HS1:=hid hS1
   have hfalse:decide (txt ts k1 = lvS 1) = false:=decide_eq_false htx
   rw [hfalse] at HSG
   clear hx hlt htx hsgn hS1 hin hf1 hfalse hk1 hy hx2
   go_wp2_with (go_at_call 44; ((with_reducible refine HSG.out.mono ?_); rintro _ w9 ⟨rfl,rfl⟩))
   refine bodyPost_ret (results_c1t2 (p:=4) (u:=5) (v:=6) (ty:=28) (by kernel_rfl) _ _ w.heap.size 28 _ (0,0) _ _ _ rfl rfl rfl (pset4 HZ.out _ _ _ _) Tryz.underlying28 rfl (by kernel_rfl)) rfl ?_
   exact ⟨below4 HBW.out (Nat.le_refl _) _ _ _ _,_,_,_,_,_,_,_,_,_,_,_,_,rfl,by rw [HX.out]; rfl,by rw [HX.out]; exact HS1.out,fun ob' k' h => by rw [HX.out] at h; cases h; exact fin_box HF1.out _ _ _ _⟩
 ·have her1:e1 = (e:Int):=by rw [HE.out,hy]; rfl
  subst her1
  have hS1:=HSL.out
  rw [show plO y = k1 by rw [hy]; rfl] at hS1
  have hin:=HIN.out
  rw [hy] at hin
  simp only [inO] at hin
  have hen:((e:Int) == 0) = false:=by simp; omega
  have hen2:((e:Int) != 0) = true:=by simp; omega
  have HX:=hid hx
  have HS1:=hid hS1
  clear hin hS1 hx hy
  go_wp2_with (fail)
  refine bodyPost_ret (results_c1t2 (p:=4) (u:=5) (v:=6) (ty:=28) (by kernel_rfl) _ _ w.heap.size 28 _ (0,0) _ _ _ rfl rfl rfl (pset4 HZ.out _ _ _ _) Tryz.underlying28 rfl (by kernel_rfl)) rfl ?_
  exact ⟨below4 HBW.out (Nat.le_refl _) _ _ _ _,_,_,_,_,_,_,_,_,_,_,_,_,rfl,by rw [HX.out]; rfl,by rw [HX.out]; exact HS1.out,fun ob' k' h => by rw [HX.out] at h; cases h⟩
set_option maxRecDepth 100000 in
set_option maxHeartbeats 8000000 in
theorem lev2 {ts:List Tok} {z g n:Nat} (hN:LC ts z g n 123 (.bin 3)) (hM:LC ts z g n 105 (.bin 2)):LC ts z g (n + 1) 105 (.bin 2):=by
 intro k s x hr w o nn c hT hS hsk
 unfold run at hr
 simp only [show ((2:Nat) < 5) = True by simp,if_true,show lvR 2 = true by decide] at hr
 have hE:=hT.ok.en
 have hz6:=hT.ok.le
 have s6:(s:Int) <= 100000:=by have:=hS.hk; omega
 have s0:(0:Int) <= (s:Int):=by omega
 obtain ⟨y,hy,hyx⟩:∃ y,run true ts n (.bin 3) k s = some y /\ ((∃ ob k1,y = .ok ob k1 /\ (if txt ts k1 = lvS 2 then thenO (run true ts n (.bin 2) (k1 + 1) (s + 1)) fun o2 k2 => some (.ok (.fm (Op2 (lvO 2) (fmO ob) (fmO o2))) k2) else some (.ok (.fm (fmO ob)) k1)) = some x) ∨ (∃ k1 e,y = .bad k1 e /\ x = .bad k1 e)):=by
  rcases thenO_some hr with ⟨ob,k1,h1,h2⟩ | ⟨k1,e,h1,h2⟩
  ·exact ⟨_,h1,.inl ⟨ob,k1,rfl,h2⟩⟩
  ·exact ⟨_,h1,.inr ⟨k1,e,rfl,h2⟩⟩
 have hin:=run_iz hE n _ _ _ _ hS.hk hy
 have hcy:=fun (W:World) (hB:Below w.heap.size w W) => hN k s y hy W o nn c (hT.up hB) hS hsk
 have HCY:=hid hcy
 have HYX:=hid hyx
 have HIN:=hid hin
 have HT:=hid hT
 have HMM:=hid hM
 have HSK:=hid hsk
 clear hr hy hyx hin hcy hT hN hM hS hE hz6 hsk
 unfold RetRF at HCY
 go_enter Tryz.func105,Tryz.ntmps105
 go_wp2_with (fail)
 go_at_call 123
 with_reducible refine (HCY.out _ (bl_al9 _)).mono ?_
 rintro _ w2 ⟨hB2,po,pn,pa,pb,pc,pd,pe,pf,o1,m1,d1,e1,rfl,her,hsl,hfm⟩
 have HE:=hid her
 clear her
 have hz0:=HK.blk_alloc ((hB2.block _ (HK.blk_lt (HK.blk_new w (.cells #[.int .u8 0,.string ⟨#[]⟩,.slice none 0 0,.slice none 0 0] 28)))).trans (HK.blk_new w (.cells #[.int .u8 0,.string ⟨#[]⟩,.slice none 0 0,.slice none 0 0] 28))) (.cells #[.int .u8 po,.string pn,.slice pa pb pc,.slice pd pe pf] 28)
 have hk7:=HK.blk_new w2 (.cells #[.int .u8 po,.string pn,.slice pa pb pc,.slice pd pe pf] 28)
 have HB2:=hid ((bl_al9 (W:=w) (.cells #[.int .u8 0,.string ⟨#[]⟩,.slice none 0 0,.slice none 0 0] 28)).trans (hB2.mono (bl_al9 (W:=w) (.cells #[.int .u8 0,.string ⟨#[]⟩,.slice none 0 0,.slice none 0 0] 28)).size))
 have HBW:=hid (HB2.out.alloc HB2.out.size (.cells #[.int .u8 po,.string pn,.slice pa pb pc,.slice pd pe pf] 28))
 have hs2:=hB2.size
 simp only [World.size_alloc] at hs2
 go_upto_region 2 with (fail)
 obtain ⟨b7,hb7⟩:∃ b,b = w2.heap.size:=⟨_,rfl⟩
 have hfm3:∀ ob k,y = .ok ob k -> FmS (RS w b7 (w2.alloc (.cells #[.int .u8 po,.string pn,.slice pa pb pc,.slice pd pe pf] 28))) (w2.alloc (.cells #[.int .u8 po,.string pn,.slice pa pb pc,.slice pd pe pf] 28)) (fmO ob) (.agg #[.int .u8 po,.string pn,.slice pa pb pc,.slice pd pe pf]):=fun ob k h => (hfm ob k h).turn fun j hj => by
  have h1:=hj.1
  have h2:=hj.2
  simp only [World.size_alloc] at h1
  exact ⟨⟨by omega,by simp only [World.size_alloc]; omega,by omega⟩,Below.heap_alloc _ _ _ h2⟩
 rw [<- hb7] at hk7 ⊢
 obtain ⟨wr,hwr⟩:∃ x,x = w2.alloc (.cells #[.int .u8 po,.string pn,.slice pa pb pc,.slice pd pe pf] 28):=⟨_,rfl⟩
 rw [<- hwr] at hz0 hk7 HBW hfm3 ⊢
 have HFM:=hid hfm3
 have HZ:=hid hz0
 have HK7:=hid hk7
 have HSL:=hid hsl
 have HB7:Hid (w.heap.size < b7):=hid (by omega)
 have hne7:¬ b7 = w.heap.size:=by omega
 have y0:=HK.blk_cell hk7 0
 have y1:=HK.blk_cell hk7 1
 have y2:=HK.blk_cell hk7 2
 have y3:=HK.blk_cell hk7 3
 have u0:=HK.blk_cell hz0 0
 have u1:=HK.blk_cell hz0 1
 have u2:=HK.blk_cell hz0 2
 have u3:=HK.blk_cell hz0 3
 have uf:=fun i => HK.blk_frozen hz0 i
 clear hfm hfm3 hz0 hk7 hB2 hs2 hb7 hwr hsl
 rcases HYX.out with ⟨ob,k1,hy,hx⟩ | ⟨k1,e,hy,hx⟩
 ·have her0:e1 = 0:=by rw [HE.out,hy]; rfl
  subst her0
  have hk1:plO y = k1:=by rw [hy]; rfl
  have hS1:=HSL.out
  rw [hk1] at hS1
  have hin:=HIN.out
  rw [hy] at hin
  simp only [inO] at hin
  have hsgn:=rsg_call (HT.out.up HBW.out) hS1 ⟨#[117,110,116,105,108]⟩ (by unfold Sg; decide)
  rw [show bys (⟨#[117,110,116,105,108]⟩:ByteArray) = lvS 2 from rfl] at hsgn
  have HSG:=hid hsgn
  have hlt:txt ts k1 = lvS 2 -> k1 < z:=fun h => HT.out.ok.en.lt hS1.hk (by rw [h]; exact lvS_ne 2)
  have hf1:=HFM.out ob k1 hy
  have HF1:=hid hf1
  by_cases htx:txt ts k1 = lvS 2
  ·rw [if_pos htx] at hx
   have hkz:=hlt htx
   obtain ⟨yy2,hy2,hyx2⟩:∃ y2,run true ts n (.bin 2) (k1 + 1) (s + 1) = some y2 /\ ((∃ ob2 k2,y2 = .ok ob2 k2 /\ x = .ok (.fm (Op2 (lvO 2) (fmO ob) (fmO ob2))) k2) ∨ (∃ k2 e,y2 = .bad k2 e /\ x = .bad k2 e)):=by
    rcases thenO_some hx with ⟨ob2,k2,h1,h2⟩ | ⟨k2,e,h1,h2⟩
    ·exact ⟨_,h1,.inl ⟨ob2,k2,rfl,by cases h2; rfl⟩⟩
    ·exact ⟨_,h1,.inr ⟨k2,e,rfl,h2⟩⟩
   have hc2:=fun (o' n' c':Nat) (hS':SlT' z (k1 + 1) o' n' c') => HMM.out (k1 + 1) (s + 1) yy2 hy2 wr o' n' c' (HT.out.up HBW.out) hS' (by have:=HSK.out; omega)
   simp only [show (((s + 1:Nat)):Int) = (s:Int) + 1 from rfl] at hc2
   unfold RetRF at hc2
   have HC2:=hid hc2
   have HYX2:=hid hyx2
   have n1:(1:Int) <= (m1:Int):=by have:=hS1.hn; omega
   have n2:(m1:Int) <= (d1:Int):=by have:=hS1.hc; omega
   have c1:(1:Int) <= (d1:Int):=by omega
   have n3:(1:Int) < (m1:Int):=by have:=hS1.hn; omega
   have c3:(1:Int) < (d1:Int):=by omega
   have hsl1:SlT' z (k1 + 1) (o1 + 3) (m1 - 1) (d1 - 1):=⟨by have:=hS1.ho; omega,by have:=hS1.hn; omega,by have:=hS1.hc; omega,hkz⟩
   have HS1:=hid hsl1
   have htrue:decide (txt ts k1 = lvS 2) = true:=decide_eq_true htx
   rw [htrue] at HSG
   clear hx hlt hy2 hyx2 htx hc2 hkz hsgn hS1 hsl1 hin hf1 htrue hk1 hy u0 u1 u2 u3 uf y0 y1 y2 y3
   go_wp2_with (go_at_call 44; ((with_reducible refine HSG.out.mono ?_); rintro _ w9 ⟨rfl,rfl⟩))
   go_at_call 105
   with_reducible refine (HC2.out (o1 + 3) (m1 - 1) (d1 - 1) HS1.out).mono ?_
   rintro _ w3 ⟨hB3,ro,rn,ra,rb,rc,rd,re,rf,o3,m3,d3,e3,rfl,her3,hsl3,hfm3⟩
   have hk7:=HK.blk_alloc ((hB3.block _ (HK.blk_lt HK7.out)).trans HK7.out) (.cells #[.int .u8 ro,.string rn,.slice ra rb rc,.slice rd re rf] 28)
   have hz4:=HK.blk_alloc ((hB3.block _ (HK.blk_lt HZ.out)).trans HZ.out) (.cells #[.int .u8 ro,.string rn,.slice ra rb rc,.slice rd re rf] 28)
   have hk9:=HK.blk_new w3 (.cells #[.int .u8 ro,.string rn,.slice ra rb rc,.slice rd re rf] 28)
   have HBW4:=hid ((HBW.out.trans (hB3.mono HBW.out.size)).alloc (HBW.out.trans (hB3.mono HBW.out.size)).size (.cells #[.int .u8 ro,.string rn,.slice ra rb rc,.slice rd re rf] 28))
   have HB3:=hid hB3
   have HE3:=hid her3
   have HS3:=hid hsl3
   have HF3:=hid hfm3
   have HZ4:=hid hz4
   clear hB3 her3 hsl3 hfm3 hz4 n1 n2 n3 c1 c3
   go_upto_region 5 with (fail)
   obtain ⟨b9,hb9⟩:∃ b,b = w3.heap.size:=⟨_,rfl⟩
   rw [<- hb9] at hk9 ⊢
   obtain ⟨w4,hw4⟩:∃ x,x = w3.alloc (.cells #[.int .u8 ro,.string rn,.slice ra rb rc,.slice rd re rf] 28):=⟨_,rfl⟩
   rw [<- hw4] at HZ4 hk7 hk9 HBW4 ⊢
   have HW4:=hid hw4
   have HB9:=hid hb9
   clear hw4 hb9
   have y0:=HK.blk_cell hk7 0
   have y1:=HK.blk_cell hk7 1
   have y2:=HK.blk_cell hk7 2
   have y3:=HK.blk_cell hk7 3
   have v0:=HK.blk_cell hk9 0
   have v1:=HK.blk_cell hk9 1
   have v2:=HK.blk_cell hk9 2
   have v3:=HK.blk_cell hk9 3
   clear hk7 hk9
   go_wp2_with (fail)
   go_at_call 76
   with_reducible refine (two_call _ _ _ _ _ _ _ _ _ _ _ _ _ _ _ _ _ _).mono ?_
   rintro _ w5 ⟨r,rfl,hB5,hr1,hrow⟩
   have hz5:=(hB5.block _ (HK.blk_lt HZ4.out)).trans HZ4.out
   clear y0 y1 y2 y3 v0 v1 v2 v3
   have u0:=HK.blk_cell hz5 0
   have u1:=HK.blk_cell hz5 1
   have u2:=HK.blk_cell hz5 2
   have u3:=HK.blk_cell hz5 3
   have uf:=fun i => HK.blk_frozen hz5 i
   have HZ5:=hid hz5
   have HB5:=hid hB5
   have HR1:=hid hr1
   have HROW:=hid hrow
   have HBW5:=hid (HBW4.out.trans (hB5.mono HBW4.out.size))
   clear hz5 hB5 hr1 hrow HZ
   have HZ:=HZ5
   go_wp2_with (fail)
   refine bodyPost_ret (results_c1t2 (p:=4) (u:=5) (v:=6) (ty:=28) (by kernel_rfl) _ _ w.heap.size 28 _ (0,0) _ _ _ rfl rfl rfl (pset4 HZ.out _ _ _ _) Tryz.underlying28 rfl (by kernel_rfl)) rfl ?_
   have hstate:erO x = e3 /\ plO x = plO yy2:=by
    rcases HYX2.out with ⟨ob2,k2,hy,hx⟩ | ⟨k2,e,hy,hx⟩
    ·exact ⟨by rw [HE3.out,hy,hx] <;> rfl,by rw [hy,hx] <;> rfl⟩
    ·exact ⟨by rw [HE3.out,hy,hx] <;> rfl,by rw [hy,hx] <;> rfl⟩
   refine ⟨below4 HBW5.out (Nat.le_refl _) _ _ _ _,_,_,_,_,_,_,_,_,_,_,_,_,rfl,hstate.1.symm,by rw [hstate.2]; exact HS3.out,fun ob' k' h => ?_⟩
   rcases HYX2.out with ⟨ob2,k2,hy,hx⟩ | ⟨k2,e,hy,hx⟩
   ·rw [hx] at h
    cases h
    have w34:w3.heap.size < w4.heap.size:=by rw [HW4.out]; simp
    have s35:=HB5.out.size
    have sr3:=HB3.out.size
    have hbr:=HBW.out.size
    have b7r:=HK.blk_lt HK7.out
    have h7:=HB7.out
    have hold:∀ j,j < wr.heap.size -> w5.heap[j]? = wr.heap[j]?:=fun j hj => by
     rw [HB5.out.block _ (by omega),HW4.out,Below.heap_alloc _ _ _ (by omega),HB3.out.block _ hj]
    have hf:=HF1.out.turn (T:=RS w b7 w5) (W':=w5) fun j hj => ⟨⟨hj.1,by have:=hj.2.1; omega,hj.2.2⟩,hold j hj.2.1⟩
    have hf2:=(HF3.out ob2 _ hy).turn (T:=RS w b7 w5) (W':=w5) fun j hj => by
     have h1:=hj.1
     have h2:=hj.2
     refine ⟨⟨by omega,by omega,by omega⟩,?_⟩
     rw [HB5.out.block _ (by omega),HW4.out,Below.heap_alloc _ _ _ (by omega)]
    have h2:=two_S (op:=14) (by omega) hf hf2 HROW.out ⟨by have:=HR1.out; omega,HK.blk_lt HROW.out,by have:=HR1.out; omega⟩
    exact fin_box h2 _ _ _ _
   ·rw [hx] at h; cases h
  ·rw [if_neg htx] at hx
   have hx2:x = .ok (.fm (fmO ob)) k1:=by cases hx; rfl
   have HX:=hid hx2
   have HS1:=hid hS1
   have hfalse:decide (txt ts k1 = lvS 2) = false:=decide_eq_false htx
   rw [hfalse] at HSG
   clear hx hlt htx hsgn hS1 hin hf1 hfalse hk1 hy hx2
   go_wp2_with (go_at_call 44; ((with_reducible refine HSG.out.mono ?_); rintro _ w9 ⟨rfl,rfl⟩))
   refine bodyPost_ret (results_c1t2 (p:=4) (u:=5) (v:=6) (ty:=28) (by kernel_rfl) _ _ w.heap.size 28 _ (0,0) _ _ _ rfl rfl rfl (pset4 HZ.out _ _ _ _) Tryz.underlying28 rfl (by kernel_rfl)) rfl ?_
   exact ⟨below4 HBW.out (Nat.le_refl _) _ _ _ _,_,_,_,_,_,_,_,_,_,_,_,_,rfl,by rw [HX.out]; rfl,by rw [HX.out]; exact HS1.out,fun ob' k' h => by rw [HX.out] at h; cases h; exact fin_box HF1.out _ _ _ _⟩
 ·have her1:e1 = (e:Int):=by rw [HE.out,hy]; rfl
  subst her1
  have hS1:=HSL.out
  rw [show plO y = k1 by rw [hy]; rfl] at hS1
  have hin:=HIN.out
  rw [hy] at hin
  simp only [inO] at hin
  have hen:((e:Int) == 0) = false:=by simp; omega
  have hen2:((e:Int) != 0) = true:=by simp; omega
  have HX:=hid hx
  have HS1:=hid hS1
  clear hin hS1 hx hy
  go_wp2_with (fail)
  refine bodyPost_ret (results_c1t2 (p:=4) (u:=5) (v:=6) (ty:=28) (by kernel_rfl) _ _ w.heap.size 28 _ (0,0) _ _ _ rfl rfl rfl (pset4 HZ.out _ _ _ _) Tryz.underlying28 rfl (by kernel_rfl)) rfl ?_
  exact ⟨below4 HBW.out (Nat.le_refl _) _ _ _ _,_,_,_,_,_,_,_,_,_,_,_,_,rfl,by rw [HX.out]; rfl,by rw [HX.out]; exact HS1.out,fun ob' k' h => by rw [HX.out] at h; cases h⟩
end Go.Proofs.YtdobflpbkfkmgaaGreatDoor
