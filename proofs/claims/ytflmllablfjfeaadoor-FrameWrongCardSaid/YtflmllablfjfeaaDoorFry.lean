import Derived.Test.YtflmllablfjfeaaDoorFrx
namespace Go.Proofs.YtflmllablfjfeaaDoor
open Go.RowKit Go.HK Go.FR
set_option linter.unusedVariables false
set_option linter.unusedSimpArgs false
set_option linter.unusedSectionVars false
abbrev Lt (W:World):Nat -> Prop:=fun k => k < W.heap.size
def IsFv (W:World) (v:Value) (f:Fm):Prop:=∃ (o:Nat) (nm:ByteArray) (a0:Option Addr) (a1 a2:Nat) (s0:Option Addr) (s1 s2:Nat),v = .agg #[.int .u8 (o:Int),.string nm,.slice a0 a1 a2,.slice s0 s1 s2] /\ f.op = o /\ f.name = nm /\ IsFm (Lt W) W ⟨a0,a1,a2⟩ ⟨s0,s1,s2⟩ f
def FmB (W:World) (B:Nat) (f:Fm):Prop:=∃ (o:Nat) (nm:ByteArray) (a0:Option Addr) (a1 a2:Nat) (s0:Option Addr) (s1 s2:Nat),W.heap[B]? = some (.cells #[.int .u8 (o:Int),.string nm,.slice a0 a1 a2,.slice s0 s1 s2] 35 (0,0)) /\ f.op = o /\ f.name = nm /\ IsFm (Lt W) W ⟨a0,a1,a2⟩ ⟨s0,s1,s2⟩ f
def IsFsV (W:World) (v:Value) (fs:List Fm):Prop:=∃ (s0:Option Addr) (s1 s2:Nat),v = .slice s0 s1 s2 /\ IsFs (Lt W) W ⟨s0,s1,s2⟩ fs
theorem lt_up {W W':World} (hB:Below W.heap.size W W'):∀ k,Lt W k -> Lt W' k /\ W'.heap[k]? = W.heap[k]?:=fun k hk => ⟨Nat.lt_of_lt_of_le hk hB.size,hB.block k hk⟩
theorem IsFv.below {W W':World} {v:Value} {f:Fm} (h:IsFv W v f) (hB:Below W.heap.size W W'):IsFv W' v f:=by
 obtain ⟨o,nm,a0,a1,a2,s0,s1,s2,h1,h2,h3,h4⟩:=h
 exact ⟨o,nm,a0,a1,a2,s0,s1,s2,h1,h2,h3,h4.turn (lt_up hB)⟩
theorem FmB.below {W W':World} {B:Nat} {f:Fm} (h:FmB W B f) (hB:Below W.heap.size W W'):FmB W' B f:=by
 obtain ⟨o,nm,a0,a1,a2,s0,s1,s2,h1,h2,h3,h4⟩:=h
 exact ⟨o,nm,a0,a1,a2,s0,s1,s2,blk_up9 hB h1,h2,h3,h4.turn (lt_up hB)⟩
theorem IsFsV.below {W W':World} {v:Value} {fs:List Fm} (h:IsFsV W v fs) (hB:Below W.heap.size W W'):IsFsV W' v fs:=by
 obtain ⟨s0,s1,s2,h1,h2⟩:=h
 exact ⟨s0,s1,s2,h1,h2.turn (lt_up hB)⟩
def IsMv (W:World) (v:Value) (m:Mdl):Prop:=∃ (k:Nat) (z lp:Int) (r0:Option Addr) (r1 r2:Nat) (f0:Option Addr) (f1 f2:Nat) (u0:Option Addr) (u1 u2:Nat) (b0:Option Addr) (b1 b2:Nat),
 v = .agg #[.int .u8 (k:Int),.int .i64 z,.slice r0 r1 r2,.int .i64 lp,.slice f0 f1 f2,.slice u0 u1 u2,.slice b0 b1 b2] /\ m.kind = k /\ m.size = z /\ m.loop = lp /\ IsM (Lt W) W ⟨⟨r0,r1,r2⟩,⟨f0,f1,f2⟩,⟨u0,u1,u2⟩,⟨b0,b1,b2⟩⟩ m
def MB (W:World) (B:Nat) (m:Mdl):Prop:=∃ (k:Nat) (z lp:Int) (r0:Option Addr) (r1 r2:Nat) (f0:Option Addr) (f1 f2:Nat) (u0:Option Addr) (u1 u2:Nat) (b0:Option Addr) (b1 b2:Nat),
 W.heap[B]? = some (.cells #[.int .u8 (k:Int),.int .i64 z,.slice r0 r1 r2,.int .i64 lp,.slice f0 f1 f2,.slice u0 u1 u2,.slice b0 b1 b2] 30 (0,0)) /\ m.kind = k /\ m.size = z /\ m.loop = lp /\ IsM (Lt W) W ⟨⟨r0,r1,r2⟩,⟨f0,f1,f2⟩,⟨u0,u1,u2⟩,⟨b0,b1,b2⟩⟩ m
theorem IsMv.below {W W':World} {v:Value} {m:Mdl} (h:IsMv W v m) (hB:Below W.heap.size W W'):IsMv W' v m:=by
 obtain ⟨k,z,lp,r0,r1,r2,f0,f1,f2,u0,u1,u2,b0,b1,b2,h1,h2,h3,h4,h5⟩:=h
 exact ⟨k,z,lp,r0,r1,r2,f0,f1,f2,u0,u1,u2,b0,b1,b2,h1,h2,h3,h4,h5.turn (lt_up hB)⟩
theorem MB.below {W W':World} {B:Nat} {m:Mdl} (h:MB W B m) (hB:Below W.heap.size W W'):MB W' B m:=by
 obtain ⟨k,z,lp,r0,r1,r2,f0,f1,f2,u0,u1,u2,b0,b1,b2,h1,h2,h3,h4,h5⟩:=h
 exact ⟨k,z,lp,r0,r1,r2,f0,f1,f2,u0,u1,u2,b0,b1,b2,blk_up9 hB h1,h2,h3,h4,h5.turn (lt_up hB)⟩
theorem fv_of {W:World} {v:Value} {f:Fm} (h:IsFv W v f):∃ a s:SL,v = fv f a s /\ IsFm (Lt W) W a s f:=by
 obtain ⟨o,nm,a0,a1,a2,s0,s1,s2,h1,h2,h3,h4⟩:=h
 exact ⟨_,_,by rw [h1,<- h2,<- h3]; rfl,h4⟩
theorem of_fv {W:World} {f:Fm} {a s:SL} (h:IsFm (Lt W) W a s f):IsFv W (fv f a s) f:=⟨f.op,f.name,a.a,a.n,a.c,s.a,s.n,s.c,rfl,rfl,rfl,h⟩
theorem mv_of {W:World} {v:Value} {m:Mdl} (h:IsMv W v m):∃ hh:MH,v = m.v hh /\ IsM (Lt W) W hh m:=by
 obtain ⟨k,z,lp,r0,r1,r2,f0,f1,f2,u0,u1,u2,b0,b1,b2,h1,h2,h3,h4,h5⟩:=h
 exact ⟨_,by rw [h1,<- h2,<- h3,<- h4]; rfl,h5⟩
theorem at_valv {W:World} {v u:Value} {m:Mdl} {f:Fm} (hv:IsMv W v m) (hu:IsFv W u f) (hrw:IsRows W) (hN:nodesF f <= 10000) (hok:m.ok = true) (hr:rightK m.kind f = true) (hl:m.lack f = false) {n:Nat} (hn:m.sem f = n) :
  Calls Tryd.prog 16 #[v,u] W fun e w' => e = .returned (.tuple #[.int .i64 (n:Int),.int .i64 0]) /\ Below W.heap.size W w':=by
 obtain ⟨hh,rfl,h1⟩:=mv_of hv
 obtain ⟨a,s,rfl,h2⟩:=fv_of hu
 have:=at_call W m hh f a s h1 h2 hrw hN
 rw [hok,hr,hl,hn] at this
 exact this.mono fun e w' h => ⟨h.2,h.1⟩
theorem holds_valv {W:World} {v u:Value} {m:Mdl} {f:Fm} (hv:IsMv W v m) (hu:IsFv W u f) (hrw:IsRows W) (hN:nodesF f <= 10000) (hok:m.ok = true) (hr:rightK m.kind f = true) (hl:m.lack f = false) {b:Bool} (hn:(m.sem f).testBit 0 = b) :
  Calls Tryd.prog 17 #[v,u] W fun e w' => e = .returned (.tuple #[.bool b,.int .i64 0]) /\ Below W.heap.size W w':=by
 obtain ⟨hh,rfl,h1⟩:=mv_of hv
 obtain ⟨a,s,rfl,h2⟩:=fv_of hu
 have:=holds_17 W m hh f a s h1 h2 hrw hN
 rw [hok,hr,hl] at this
 refine this.mono fun e w' h => ⟨?_,h.1⟩
 rw [h.2,<- hn]; rfl
theorem validMv {W:World} {v:Value} {m:Mdl} (hv:IsMv W v m):Calls Tryd.prog 18 #[v] W (RetW W m.ok):=by
 obtain ⟨hh,rfl,h1⟩:=mv_of hv
 exact validM W m hh h1
theorem below_alloc (W:World) (o:Obj):Below W.heap.size W (W.alloc o):=(Below.refl _ W).alloc (Nat.le_refl _) o
theorem build1 {W:World} {o:Nat} {nm:ByteArray} {a0:Option Addr} {a1 a2:Nat} {s0:Option Addr} {s1 s2:Nat} {f:Fm} (h2:f.op = o) (h3:f.name = nm) (h:IsFm (Lt W) W ⟨a0,a1,a2⟩ ⟨s0,s1,s2⟩ f) :
  IsFsV (W.alloc (.cells #[.int .u8 (o:Int),.string nm,.slice a0 a1 a2,.slice s0 s1 s2] 35)) (.slice (some ⟨W.heap.size,0,none⟩) 1 1) [f]:=by
 have hB:=below_alloc W (.cells #[.int .u8 (o:Int),.string nm,.slice a0 a1 a2,.slice s0 s1 s2] 35)
 have hf:=h.turn (lt_up hB)
 have:=join_one (op:=3) (c:=1) (p:=(f,⟨a0,a1,a2⟩,⟨s0,s1,s2⟩)) (S:=Lt _) (by omega) hf (B:=W.heap.size) (by simp [Lt]) (by rw [HK.blk_new,<- h2,<- h3]; rfl)
 exact ⟨_,_,_,rfl,this.s⟩
theorem build2 {W:World} {o:Nat} {nm:ByteArray} {a0:Option Addr} {a1 a2:Nat} {s0:Option Addr} {s1 s2:Nat} {f:Fm} (h2:f.op = o) (h3:f.name = nm) (h:IsFm (Lt W) W ⟨a0,a1,a2⟩ ⟨s0,s1,s2⟩ f)
  {o':Nat} {nm':ByteArray} {a0':Option Addr} {a1' a2':Nat} {s0':Option Addr} {s1' s2':Nat} {f':Fm} (h2':f'.op = o') (h3':f'.name = nm') (h':IsFm (Lt W) W ⟨a0',a1',a2'⟩ ⟨s0',s1',s2'⟩ f') :
  IsFsV (W.alloc (.cells #[.int .u8 (o:Int),.string nm,.slice a0 a1 a2,.slice s0 s1 s2,.int .u8 (o':Int),.string nm',.slice a0' a1' a2',.slice s0' s1' s2'] 35)) (.slice (some ⟨W.heap.size,0,none⟩) 2 2) [f,f']:=by
 have hB:=below_alloc W (.cells #[.int .u8 (o:Int),.string nm,.slice a0 a1 a2,.slice s0 s1 s2,.int .u8 (o':Int),.string nm',.slice a0' a1' a2',.slice s0' s1' s2'] 35)
 have:=join_two (op:=3) (c:=2) (p:=(f,⟨a0,a1,a2⟩,⟨s0,s1,s2⟩)) (q:=(f',⟨a0',a1',a2'⟩,⟨s0',s1',s2'⟩)) (S:=Lt _) (by omega) (h.turn (lt_up hB)) (h'.turn (lt_up hB)) (B:=W.heap.size) (by simp [Lt]) (by rw [HK.blk_new,<- h2,<- h3,<- h2',<- h3']; rfl)
 exact ⟨_,_,_,rfl,this.s⟩
theorem joinv {W:World} {op:Nat} {s0:Option Addr} {s1 s2:Nat} {fs:List Fm} (hop:op < 256) (h:IsFsV W (.slice s0 s1 s2) fs) :
  Calls Tryd.prog 15 #[.int .u8 (op:Int),.slice s0 s1 s2] W fun e w' => e = .returned (.agg #[.int .u8 (op:Int),.string ⟨#[]⟩,.slice none 0 0,.slice s0 s1 s2]) /\ IsFv w' (.agg #[.int .u8 (op:Int),.string ⟨#[]⟩,.slice none 0 0,.slice s0 s1 s2]) (.mk op ⟨#[]⟩ [] fs) /\ Below W.heap.size W w':=by
 refine (join_call W op s0 s1 s2).mono ?_
 rintro e w' ⟨rfl,rfl⟩
 obtain ⟨_,_,_,h1,h2⟩:=h
 injection h1 with h1 h3 h4
 subst h1 h3 h4
 have hB:=below_alloc W (.cells #[.int .u8 (op:Int),.string ⟨#[]⟩,.slice none 0 0,.slice s0 s1 s2] 35)
 exact ⟨rfl,⟨op,⟨#[]⟩,none,0,0,s0,s1,s2,rfl,rfl,rfl,.nil none 0,h2.turn (lt_up hB),hop,(show (0:Nat) <= maxLen by omega)⟩,hB⟩
theorem box_f {W:World} {o:Nat} {nm:ByteArray} {a0:Option Addr} {a1 a2:Nat} {s0:Option Addr} {s1 s2:Nat} {f:Fm} (h:IsFv W (.agg #[.int .u8 (o:Int),.string nm,.slice a0 a1 a2,.slice s0 s1 s2]) f):FmB (W.alloc (.cells #[.int .u8 (o:Int),.string nm,.slice a0 a1 a2,.slice s0 s1 s2] 35)) W.heap.size f:=by
 obtain ⟨o',nm',a0',a1',a2',s0',s1',s2',h1,h2,h3,h4⟩:=h.below (below_alloc W (.cells #[.int .u8 (o:Int),.string nm,.slice a0 a1 a2,.slice s0 s1 s2] 35))
 injection h1 with h1
 have e:=congrArg Array.toList h1
 simp only [List.cons.injEq,Value.int.injEq,Value.string.injEq,Value.slice.injEq,Int.natCast_inj,true_and,and_true] at e
 obtain ⟨rfl,rfl,⟨rfl,rfl,rfl⟩,rfl,rfl,rfl⟩:=e
 exact ⟨_,_,_,_,_,_,_,_,HK.blk_new _ _,h2,h3,h4⟩
theorem IsRows.below {W W':World} (h:IsRows W) (hB:Below W.heap.size W W'):IsRows W':=h.turn (hB.block 0 h.pos)
theorem mv_own {W:World} {b b2 kind n g c fg fc:Nat} {rel l:List Nat} (hk:kind < 256) (h1:W.ownsRow b 3 1 (.slice (some ⟨g,0,none⟩) n c) n (ints rel)) (h2:W.ownsRow b2 46 3 (.slice (some ⟨fg,0,none⟩) l.length fc) l.length (fcs 0 l)) (hn:rel.length = n) (hl:l.length <= 1000) (z:Int) :
  IsMv W (.agg #[.int .u8 (kind:Int),.int .i64 z,.slice (some ⟨g,0,none⟩) n c,.int .i64 0,.slice (some ⟨fg,0,none⟩) l.length fc,.slice none 0 0,.slice none 0 0]) ⟨kind,z,rel.map fun x:Nat => (x:Int),0,factL 0 l,0,0⟩:=by
 have hg:g < W.heap.size:=own_lt9 h1 g rfl
 have hfg:fg < W.heap.size:=own_lt9 h2 fg rfl
 refine ⟨kind,z,0,some ⟨g,0,none⟩,n,c,some ⟨fg,0,none⟩,l.length,fc,none,0,0,none,0,0,rfl,rfl,rfl,rfl,⟨⟨?_,fun i x hx => ?_⟩,isFz_own hfg h2 rfl,rfl,rfl,hk,?_⟩⟩
 ·show n = _; rw [List.length_map]; exact hn.symm
 ·exact ⟨g,0,rfl,hg,(isR_own h1).z i x hx⟩
 ·show l.length <= 1000000000; omega
end Go.Proofs.YtflmllablfjfeaaDoor
