import Derived.Test.YtflmllablfjfeaaDoorFrs
import Derived.Laws.Rows
namespace Go.Proofs.YtflmllablfjfeaaDoor
open Go.RowKit Go.HK Go.FR
set_option linter.unusedVariables false
set_option linter.unusedSimpArgs false
set_option linter.unusedSectionVars false
structure Mdl where
 kind:Nat
 size:Int
 rel:List Int
 loop:Int
 facts:List (ByteArray × Int × Int)
 nu:Nat
 nb:Nat
structure MH where
 r:SL
 f:SL
 u:SL
 b:SL
def Mdl.v (m:Mdl) (h:MH):Value:=.agg #[.int .u8 (m.kind:Int),.int .i64 m.size,h.r.v,.int .i64 m.loop,h.f.v,h.u.v,h.b.v]
structure IsM (S:Nat -> Prop) (W:World) (h:MH) (m:Mdl):Prop where
 r:IsZs S W h.r m.rel
 f:IsFz S W h.f m.facts
 u:h.u.n = m.nu
 b:h.b.n = m.nb
 k:m.kind < 256
 l:h.f.n <= 1000000000
theorem IsM.turn {S T:Nat -> Prop} {W W':World} {h:MH} {m:Mdl} (hm:IsM S W h m) (hb:∀ k,S k -> T k /\ W'.heap[k]? = W.heap[k]?):IsM T W' h m:=⟨hm.r.turn hb,hm.f.turn hb,hm.u,hm.b,hm.k,hm.l⟩
theorem IsM.below {W W':World} {h:MH} {m:Mdl} (hm:IsM (fun k => k < W.heap.size) W h m) (hB:Below W.heap.size W W'):IsM (fun k => k < W'.heap.size) W' h m:=hm.turn fun k hk => ⟨Nat.lt_of_lt_of_le hk hB.size,hB.block k hk⟩
def Mdl.ok (m:Mdl):Bool:=validB m.kind m.size m.rel m.loop m.facts m.nu m.nb
def Mdl.gs (m:Mdl):List (ByteArray × Value):=gsK m.facts m.facts.length
def Mdl.sem (m:Mdl) (f:Fm):Nat:=semF (decide (m.kind = 3)) (natsI m.rel) (lookG m.gs) f
def Mdl.lack (m:Mdl) (f:Fm):Bool:=lackF (lookG m.gs) f
structure IsFm (S:Nat -> Prop) (W:World) (a s:SL) (f:Fm):Prop where
 t:IsTs S W a f.args
 s:IsFs S W s f.subs
 o:f.op < 256
 z:f.name.size <= maxLen
def fv (f:Fm) (a s:SL):Value:=.agg #[.int .u8 (f.op:Int),.string f.name,a.v,s.v]
theorem IsFm.turn {S T:Nat -> Prop} {W W':World} {a s:SL} {f:Fm} (h:IsFm S W a s f) (hb:∀ k,S k -> T k /\ W'.heap[k]? = W.heap[k]?):IsFm T W' a s f:=⟨h.t.turn hb,h.s.turn hb,h.o,h.z⟩
theorem IsFm.below {W W':World} {a s:SL} {f:Fm} (hm:IsFm (fun k => k < W.heap.size) W a s f) (hB:Below W.heap.size W W'):IsFm (fun k => k < W'.heap.size) W' a s f:=hm.turn fun k hk => ⟨Nat.lt_of_lt_of_le hk hB.size,hB.block k hk⟩
theorem validM (w:World) (m:Mdl) (h:MH) (hM:IsM (fun k => k < w.heap.size) w h m):Calls Tryd.prog 18 #[m.v h] w (RetW w m.ok):=by
 have:=valid_call w m.kind m.size m.loop h.r h.f h.u h.b m.rel m.facts hM.k hM.r hM.f hM.l
 rw [hM.u,hM.b] at this
 exact this
theorem rightM (w:World) (kind:Nat) (hk:kind = 3 ∨ kind = 4) (f:Fm) (a s:SL) (hrw:IsRows w) (hN:nodesF f <= 10000) (hf:IsFm (fun k => k < w.heap.size) w a s f):Calls Tryd.prog 37 #[.int .u8 (kind:Int),fv f a s] w (RetW w (rightK kind f)) :=
 fright_call w kind hk f a s hrw hN hf.t hf.s hf.o hf.z
set_option maxRecDepth 100000 in
set_option maxHeartbeats 1000000 in
theorem at_no (w:World) (m:Mdl) (h:MH) (f:Fm) (a s:SL) (hM:IsM (fun k => k < w.heap.size) w h m) (hV:m.ok = false) (rk lk:Bool) (v:Nat) :
  Calls Tryd.prog 16 #[m.v h,fv f a s] w (RetAt w false rk lk v):=by
 have hv:=fun (o o2:Obj) => validM ((w.alloc o).alloc o2) m h (hM.below (((Below.refl _ w).alloc (Nat.le_refl _) o).alloc (by simp) o2))
 rw [hV] at hv
 unfold RetW at hv
 have HBN:Hid (∀ (o o2:Obj) (W:World),Below ((w.alloc o).alloc o2).heap.size ((w.alloc o).alloc o2) W -> Below w.heap.size w W):=Lib.hid fun o o2 W h => (((Below.refl _ w).alloc (Nat.le_refl _) o).alloc (by simp) o2).trans (h.mono (by simp; omega))
 have HV:=Lib.hid hv
 clear hv hV hM
 obtain ⟨kind,size,rel,loop,facts,nu,nb⟩:=m
 obtain ⟨⟨ra,rn,rc⟩,⟨fa,fn,fc⟩,⟨ua,un,uc⟩,⟨ba,bn,bc⟩⟩:=h
 obtain ⟨aa,an,ac⟩:=a
 obtain ⟨sa,sn,sc⟩:=s
 obtain ⟨op,nm,ar,sb⟩:=f
 simp only [Mdl.v,fv,SL.v,FR.Fm.op,FR.Fm.name] at HV ⊢
 go_enter Tryd.func16,Tryd.ntmps16
 go_wp2_with (go_at_call 18; ((with_reducible refine (HV.out _ _).mono ?_); rintro e w1 ⟨rfl,hB1⟩))
 go_ret2
 exact ⟨HBN.out _ _ _ hB1,rfl⟩
theorem ok_kind {m:Mdl} (h:m.ok = true):(m.kind = 3 ∨ m.kind = 4) /\ relB m.rel = true /\ factsK (decide (m.kind = 3)) (natsI m.rel) m.facts m.facts.length = true:=by
 unfold Mdl.ok validB at h
 simp only [Bool.and_eq_true,decide_eq_true_iff] at h
 exact ⟨h.1.1.1.1.1.1.1,h.1.1.1.1.1.1.2,h.2⟩
theorem at_call (w:World) (m:Mdl) (h:MH) (f:Fm) (a s:SL) (hM:IsM (fun k => k < w.heap.size) w h m) (hf:IsFm (fun k => k < w.heap.size) w a s f) (hrw:IsRows w) (hN:nodesF f <= 10000) :
  Calls Tryd.prog 16 #[m.v h,fv f a s] w (RetAt w m.ok (rightK m.kind f) (m.lack f) (m.sem f)):=by
 rcases e:m.ok with _ | _
 ·exact at_no w m h f a s hM e _ _ _
 ·obtain ⟨hk,hr,hfk⟩:=ok_kind e
  obtain ⟨rel,hxr,hok,h1⟩:=relB_frok hr
  have hlen:=hM.r.1
  obtain ⟨g,o,ha⟩:=hM.r.pos (by rw [hlen,hxr,List.length_map]; omega)
  have hV:=fun W hB => validM W m h (hM.below (W':=W) hB)
  rw [e] at hV
  have hZr:=hM.r
  unfold Mdl.sem Mdl.lack Mdl.gs
  rw [hxr,natsI_of] at hfk ⊢
  obtain ⟨⟨ra,rn,rc⟩,hf2,hu,hb⟩:=h
  simp only [] at ha hlen hZr
  subst ha
  have hgw:g < w.heap.size:=by
   obtain ⟨g',o',e',hs,_⟩:=hZr.2 0 _ (List.getElem?_eq_getElem (show 0 < m.rel.length by rw [hxr,List.length_map]; omega))
   cases e'; exact hs
  have hZ:=hZr.z
  rw [hxr] at hZ
  exact at_yes w m.kind m.size m.loop g o rn rc hf2 hu hb rel m.facts f a s hk (by rw [hlen,hxr,List.length_map]) hok hZ.r hgw hM.f hM.l hV hfk hrw hN hf.t hf.s hf.o hf.z
def RetHo (w:World) (V rk lk:Bool) (v:Nat) (e:Ending) (w':World):Prop :=
 Below w.heap.size w w' /\ e = .returned (.tuple #[.bool (V && rk && !lk && v.testBit 0),.int .i64 (if (V && rk) = true then (if lk = true then 6 else 0) else 2)])
set_option maxRecDepth 100000 in
set_option maxHeartbeats 1000000 in
theorem holds17_of (w:World) (a1 a2 a3 a4 a5 a6 a7 b1 b2 b3 b4:Value) (V rk lk:Bool) (v:Nat) (hv:v < 4294967296) (hA:∀ W,Below w.heap.size w W -> Calls Tryd.prog 16 #[.agg #[a1,a2,a3,a4,a5,a6,a7],.agg #[b1,b2,b3,b4]] W (RetAt W V rk lk v)) :
  Calls Tryd.prog 17 #[.agg #[a1,a2,a3,a4,a5,a6,a7],.agg #[b1,b2,b3,b4]] w (RetHo w V rk lk v):=by
 have hA2:=fun (o o2:Obj) => hA ((w.alloc o).alloc o2) (((Below.refl _ w).alloc (Nat.le_refl _) o).alloc (by simp) o2)
 unfold RetAt at hA2
 have HBN:Hid (∀ (o o2:Obj) (W:World),Below ((w.alloc o).alloc o2).heap.size ((w.alloc o).alloc o2) W -> Below w.heap.size w W):=Lib.hid fun o o2 W h => (((Below.refl _ w).alloc (Nat.le_refl _) o).alloc (by simp) o2).trans (h.mono (by simp; omega))
 have h1:bits .and .i64 (v:Int) 1 = (if v.testBit 0 = true then 1 else 0:Int):=by
  rcases e:v.testBit 0 with _ | _
  ·have:=bit0 (k:=0) hv e; simpa using this
  ·have:=bit1 (k:=0) hv e; simpa using this
 unfold RetHo
 obtain ⟨G,hG⟩:∃ G,G = (V && rk && !lk):=⟨_,rfl⟩
 rw [<- hG] at hA2 ⊢
 obtain ⟨cd,hcd⟩:∃ cd:Int,cd = (if (V && rk) = true then (if lk = true then 6 else 0) else 2):=⟨_,rfl⟩
 rw [<- hcd] at hA2 ⊢
 obtain ⟨tb,htb⟩:∃ tb,tb = v.testBit 0:=⟨_,rfl⟩
 rw [<- htb] at h1 ⊢
 cases G
 ·have hc0:(cd == 0) = false:=by
   rw [hcd]
   cases V <;> cases rk <;> cases lk <;> first | rfl | cases hG
  rw [Bool.false_and]
  simp only [Bool.false_eq_true,if_false,show ((0:Nat):Int) = 0 from rfl] at hA2
  have HA2:=Lib.hid hA2
  clear hA2 hA h1 hG hcd htb
  go_enter Tryd.func17,Tryd.ntmps17
  go_wp2_with (go_at_call 16; ((with_reducible refine (HA2.out _ _).mono ?_); rintro e w1 ⟨hB1,rfl⟩))
  go_ret2
  exact ⟨HBN.out _ _ _ hB1,rfl⟩
 ·have hc0:cd = 0:=by
   rw [hcd]
   cases V <;> cases rk <;> cases lk <;> first | rfl | cases hG
  subst hc0
  rw [Bool.true_and]
  simp only [if_true] at hA2
  have HA2:=Lib.hid hA2
  clear hA2 hA hG hcd htb
  cases tb
  ·simp only [Bool.false_eq_true,if_false] at h1
   go_enter Tryd.func17,Tryd.ntmps17
   go_wp2_with (go_at_call 16; ((with_reducible refine (HA2.out _ _).mono ?_); rintro e w1 ⟨hB1,rfl⟩))
   go_ret2
   exact ⟨HBN.out _ _ _ hB1,rfl⟩
  ·simp only [if_true] at h1
   go_enter Tryd.func17,Tryd.ntmps17
   go_wp2_with (go_at_call 16; ((with_reducible refine (HA2.out _ _).mono ?_); rintro e w1 ⟨hB1,rfl⟩))
   go_ret2
   exact ⟨HBN.out _ _ _ hB1,rfl⟩
theorem gs_look {m:Mdl} (h:m.ok = true):LookOk (natsI m.rel).length (lookG m.gs):=by
 obtain ⟨_,hr,hfk⟩:=ok_kind h
 exact lookG_ok (gsK_ok hfk)
theorem sem_small {m:Mdl} (h:m.ok = true) (f:Fm):m.sem f < 16:=by
 obtain ⟨_,hr,_⟩:=ok_kind h
 obtain ⟨rel,hxr,hok,_⟩:=relB_frok hr
 have h2:=gs_look h
 rw [hxr,natsI_of] at h2
 unfold Mdl.sem
 rw [hxr,natsI_of]
 exact semF_16 hok h2 f
theorem holds_17 (w:World) (m:Mdl) (h:MH) (f:Fm) (a s:SL) (hM:IsM (fun k => k < w.heap.size) w h m) (hf:IsFm (fun k => k < w.heap.size) w a s f) (hrw:IsRows w) (hN:nodesF f <= 10000) :
  Calls Tryd.prog 17 #[m.v h,fv f a s] w (RetHo w m.ok (rightK m.kind f) (m.lack f) (m.sem f)):=by
 rcases e:m.ok with _ | _
 ·have:=holds17_of w (.int .u8 (m.kind:Int)) (.int .i64 m.size) h.r.v (.int .i64 m.loop) h.f.v h.u.v h.b.v (.int .u8 (f.op:Int)) (.string f.name) a.v s.v false (rightK m.kind f) (m.lack f) 0 (by omega) fun W hB => by
   have:=at_call W m h f a s (hM.below hB) (hf.below hB) (hrw.turn (hB.block 0 hrw.pos)) hN
   rw [e] at this
   exact this.mono fun _ _ h => by unfold RetAt at h ⊢; simpa using h
  exact this.mono fun _ _ h => by unfold RetHo at h ⊢; simpa using h
 ·have:=holds17_of w (.int .u8 (m.kind:Int)) (.int .i64 m.size) h.r.v (.int .i64 m.loop) h.f.v h.u.v h.b.v (.int .u8 (f.op:Int)) (.string f.name) a.v s.v true (rightK m.kind f) (m.lack f) (m.sem f) (by have:=sem_small e f; omega) fun W hB => by
   have:=at_call W m h f a s (hM.below hB) (hf.below hB) (hrw.turn (hB.block 0 hrw.pos)) hN
   rw [e] at this
   exact this
  exact this
set_option maxRecDepth 100000 in
set_option maxHeartbeats 1000000 in
theorem atom_call (w:World) (s:ByteArray):Calls Tryd.prog 29 #[.string s] w fun e w' => e = .returned (.agg #[.int .u8 1,.string s,.slice none 0 0,.slice none 0 0]) /\ w' = w.alloc (.cells #[.int .u8 1,.string s,.slice none 0 0,.slice none 0 0] 35):=by
 go_enter Tryd.func29,Tryd.ntmps29
 go_wp2
 refine bodyPost_ret (results_cell_row (p:=2) (ty:=35) (by kernel_rfl) _ _ w.heap.size 35 _ (0,0) _ rfl (HK.blk_new _ _) Tryd.underlying35 rfl (by kernel_rfl)) rfl ?_
 exact ⟨rfl,rfl⟩
set_option maxRecDepth 100000 in
set_option maxHeartbeats 1000000 in
theorem join_call (w:World) (op:Nat) (a:Option Addr) (n c:Nat):Calls Tryd.prog 15 #[.int .u8 (op:Int),.slice a n c] w fun e w' => e = .returned (.agg #[.int .u8 (op:Int),.string ⟨#[]⟩,.slice none 0 0,.slice a n c]) /\ w' = w.alloc (.cells #[.int .u8 (op:Int),.string ⟨#[]⟩,.slice none 0 0,.slice a n c] 35):=by
 go_enter Tryd.func15,Tryd.ntmps15
 go_wp2
 refine bodyPost_ret (results_cell_row (p:=4) (ty:=35) (by kernel_rfl) _ _ w.heap.size 35 _ (0,0) _ rfl (HK.blk_new _ _) Tryd.underlying35 rfl (by kernel_rfl)) rfl ?_
 exact ⟨rfl,rfl⟩
end Go.Proofs.YtflmllablfjfeaaDoor
