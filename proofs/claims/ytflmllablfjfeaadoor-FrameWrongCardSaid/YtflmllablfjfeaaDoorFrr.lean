import Derived.Test.YtflmllablfjfeaaDoorFrn
import Derived.Test.YtflmllablfjfeaaDoorEac
namespace Go.Proofs.YtflmllablfjfeaaDoor
open Go.RowKit Go.HK Go.FR Lib
set_option linter.unusedVariables false
set_option linter.unusedSimpArgs false
set_option linter.unusedSectionVars false
section
variable {P:Program} {w:World}
theorem run_lookup_ok_str {t k e:TypeId} {m:Nat} {es:Array MapEntry} {clock:Nat} {gs:List (ByteArray × Value)} {z:Value} (s:ByteArray)
  (ht:P.underlying t = some (.map k e)) (hk:P.underlying k = some .string) (hz:(zeroValue e).run P w = .ok z w)
  (hm:w.heap[m]? = some (.map es clock)) (hg:MapIs es.toList gs) :
  (Instr.lookup t (.map (some m)) (.string s) true).run P w = .ok (.tuple #[(gget gs s).getD z,.bool (gget gs s).isSome]) w:=by
 have h1:=MapKept.run_findKey (P:=P) (w:=w) hk (findNow_str s es.toList gs 0 hg)
 have h2:=MapKept.run_checkKey (P:=P) (w:=w) (k:=.string s) hk (by simp [MapKept.IsKey]) es.isEmpty 9999
 unfold Instr.lookup
 simp only [Sem.run_bind,run_underlying ht,Result.andThen,MapKept.run_getObj_map hm,Sem.run_pure,h2,h1]
 unfold gget
 cases gfind s gs 0 with
 | none => simp [hz]
 | some q => simp
end
structure AE (Ba Bf Bm Bo M g o n c kind:Nat) (size lp:Value) (fv uv bv:Value) (rel:List Nat) (gs:List (ByteArray × Value)) (W:World):Prop where
 ha:W.heap[Ba]? = some (.cells #[.func (.func 39) #[] #[.pointer (some ⟨Ba,0,none⟩),.pointer (some ⟨Bf,0,none⟩),.pointer (some ⟨Bm,0,none⟩),.pointer (some ⟨Bo,0,none⟩)]] 77 (0,0))
 hf:W.heap[Bf]? = some (.cells #[.map (some M)] 76 (0,0))
 hm:∃ es clock,W.heap[M]? = some (.map es clock) /\ MapIs es.toList gs
 ho:W.heap[Bo]? = some (.cells #[.int .u8 (kind:Int),size,.slice (some ⟨g,o,none⟩) n c,lp,fv,uv,bv] 30 (0,0))
 hr:IsR W g o rel
 ne:Ba ≠ Bm /\ Bf ≠ Bm /\ M ≠ Bm /\ Bo ≠ Bm /\ g ≠ Bm
theorem AE.fj {Ba Bf Bm Bo M g o n c kind:Nat} {size lp fv uv bv:Value} {rel:List Nat} {gs:List (ByteArray × Value)} {W W':World} (h:AE Ba Bf Bm Bo M g o n c kind size lp fv uv bv rel gs W) (hj:FJ Bm W W'):AE Ba Bf Bm Bo M g o n c kind size lp fv uv bv rel gs W' where
 ha:=HK.Frm.heap hj h.ha h.ne.1
 hf:=HK.Frm.heap hj h.hf h.ne.2.1
 hm:=by obtain ⟨es,cl,a,b⟩:=h.hm; exact ⟨es,cl,HK.Frm.heap hj a h.ne.2.2.1,b⟩
 ho:=HK.Frm.heap hj h.ho h.ne.2.2.2.1
 hr:=fun i x hx => by
  have hc:=h.hr i x hx
  have hlt:g < W.heap.size:=World.block_lt_of_cell? W ⟨g,o + i,none⟩ hc
  exact (World.cell?_of_block (a:=⟨g,o + i,none⟩) (hj.block g hlt h.ne.2.2.2.2)).trans hc
 ne:=h.ne
def GOk (n:Nat) (gs:List (ByteArray × Value)):Prop:=∀ s v,gget gs s = some v -> ∃ m:Nat,m < 2 ^ n /\ v = .int .i64 (m:Int)
def lookG (gs:List (ByteArray × Value)) (s:ByteArray):Option Nat:=(gget gs s).map fun v => (intOf v).toNat
theorem lookG_ok {n:Nat} {gs:List (ByteArray × Value)} (h:GOk n gs):LookOk n (lookG gs):=fun s m hm => by
 unfold lookG at hm
 obtain ⟨v,hv,rfl⟩:=Option.map_eq_some_iff.1 hm
 obtain ⟨m,hm2,rfl⟩:=h s v hv
 simpa [intOf] using hm2
def RetA (W:World) (Bm v:Nat) (b:Bool) (e:Ending) (W':World):Prop:=e = .returned (.int .i64 (v:Int)) /\ FJ Bm W W' /\ W'.heap[Bm]? = some (.cells #[.bool b] 4 (0,0))
def AtOk (kind:Nat) (rel:List Nat) (gs:List (ByteArray × Value)) (f:Fm):Prop :=
 ∀ (W:World) (Ba Bf Bm Bo M g o n c n0:Nat) (size lp fv uv bv:Value) (b:Bool) (av sv:SL),AE Ba Bf Bm Bo M g o n c kind size lp fv uv bv rel gs W -> W.heap[Bm]? = some (.cells #[.bool b] 4 (0,0)) -> rel.length = n -> n0 <= W.heap.size ->
  IsFs (SJ Bm n0) W sv f.subs -> opsF kind f = true ->
  Calls Tryd.prog 39 #[.agg #[.int .u8 (f.op:Int),.string f.name,av.v,sv.v],.pointer (some ⟨Ba,0,none⟩),.pointer (some ⟨Bf,0,none⟩),.pointer (some ⟨Bm,0,none⟩),.pointer (some ⟨Bo,0,none⟩)] W (RetA W Bm (semF (decide (kind = 3)) rel (lookG gs) f) (b || lackF (lookG gs) f))
theorem semL_zero (force:Bool) (rel:List Nat) (look:ByteArray -> Option Nat):semL force rel look [] = (0,0):=by unfold semL; rfl
theorem lackL_zero (look:ByteArray -> Option Nat):lackL look [] = (false,false):=by unfold lackL; rfl
theorem semL_one (force:Bool) (rel:List Nat) (look:ByteArray -> Option Nat) {subs:List Fm} {f:Fm} (h:subs[0]? = some f):(semL force rel look subs).1 = semF force rel look f /\ (lackL look subs).1 = lackF look f:=by
 cases subs with
 | nil => simp at h
 | cons g r => simp at h; subst h; exact ⟨by unfold semL; rfl,by unfold lackL; rfl⟩
theorem semL_two (force:Bool) (rel:List Nat) (look:ByteArray -> Option Nat) {subs:List Fm} {f:Fm} (h:subs[1]? = some f):(semL force rel look subs).2 = semF force rel look f /\ (lackL look subs).2 = lackF look f:=by
 cases subs with
 | nil => simp at h
 | cons g r =>
  have h2:r[0]? = some f:=by simpa using h
  have:=semL_one force rel look h2
  exact ⟨by unfold semL; exact this.1,by unfold lackL; exact this.2⟩
theorem semL_two0 (force:Bool) (rel:List Nat) (look:ByteArray -> Option Nat) {subs:List Fm} (h:subs.length <= 1):(semL force rel look subs).2 = 0 /\ (lackL look subs).2 = false:=by
 match subs,h with
 | [],_ => exact ⟨by unfold semL; rfl,by unfold lackL; rfl⟩
 | [f],_ => exact ⟨by unfold semL; rw [semL_zero],by unfold lackL; rw [lackL_zero]⟩
theorem semL_16 (force:Bool) {rel:List Nat} {look:ByteArray -> Option Nat} (hr:FrOk rel) (hl:LookOk rel.length look):∀ subs:List Fm,(semL force rel look subs).1 < 16 /\ (semL force rel look subs).2 < 16
 | [] => by rw [semL_zero]; exact ⟨by omega,by omega⟩
 | f :: r => by
  have h1:=semL_16 force hr hl r
  unfold semL
  exact ⟨semF_16 hr hl f,h1.1⟩
theorem zero3 (w:World):(zeroValue 3).run Tryd.prog w = .ok (.int .i64 0) w:=by kernel_rfl
theorem lookG_val {n:Nat} {gs:List (ByteArray × Value)} (h:GOk n gs) (s:ByteArray):(gget gs s).getD (.int .i64 0) = .int .i64 (((lookG gs s).getD 0:Nat):Int):=by
 unfold lookG
 rcases e:gget gs s with _ | v
 ·rfl
 ·obtain ⟨m,_,rfl⟩:=h s v e
  simp [intOf]
theorem fs_ne {B n0:Nat} {W:World} {g o n c:Nat} {fs:List Fm} (h:IsFs (SJ B n0) W ⟨some ⟨g,o,none⟩,n,c⟩ fs) (hn:0 < n):g ≠ B:=by
 cases h with
 | nil a c => omega
 | row g o c fs av sv hg hc ha hs hz => exact hg.1
theorem ops_at {kind op:Nat} {nm:ByteArray} {args:List Tm} {subs:List Fm} (h:opsF kind (.mk op nm args subs) = true):opK kind op /\ ∀ f ∈ subs,opsF kind f = true:=by
 unfold opsF at h
 simp only [Bool.and_eq_true,Bool.or_eq_true,decide_eq_true_iff] at h
 refine ⟨?_,?_⟩
 ·unfold opK
  rcases h.1.2 with ⟨h1,h2⟩ | h1
  ·exact .inr ⟨h1,h2⟩
  ·exact .inl h1
 ·have h2:=h.2
  clear h
  intro f hf
  induction subs with
  | nil => cases hf
  | cons g r ih =>
   unfold opsL at h2
   rw [Bool.and_eq_true] at h2
   rcases List.mem_cons.1 hf with rfl | hf
   ·exact h2.1
   ·exact ih h2.2 hf
set_option maxRecDepth 100000 in
set_option maxHeartbeats 4000000 in
theorem at_of (kind:Nat) (hk:kind = 3 ∨ kind = 4) (rel:List Nat) (hok:FrOk rel) (gs:List (ByteArray × Value)) (hg:GOk rel.length gs) (op:Nat) (nm:ByteArray) (args:List Tm) (subs:List Fm) (IH:∀ f ∈ subs,AtOk kind rel gs f):AtOk kind rel gs (.mk op nm args subs):=by
 intro W0 Ba Bf Bm Bo M g o n c n0 size lp fv uv bv b av sv hA hM hn hn0 hS hop
 obtain ⟨hop1,hops⟩:=ops_at hop
 obtain ⟨aa,an,ac⟩:=av
 obtain ⟨sa,sn,sc⟩:=sv
 have h4:n <= 4:=by have:=hok.len; omega
 obtain ⟨R,hR⟩:∃ R,R = semF (decide (kind = 3)) rel (lookG gs) (.mk op nm args subs):=⟨_,rfl⟩
 obtain ⟨RL,hRL⟩:∃ RL,RL = lackF (lookG gs) (.mk op nm args subs):=⟨_,rfl⟩
 have HR:Hid (R = nodeS (decide (kind = 3)) rel (lookG gs) op nm (semL (decide (kind = 3)) rel (lookG gs) subs).1 (semL (decide (kind = 3)) rel (lookG gs) subs).2):=hid (by rw [hR]; unfold semF; rfl)
 have HRL:Hid (RL = ((lackL (lookG gs) subs).1 || (lackL (lookG gs) subs).2 || (decide (op = 1) && (lookG gs nm).isNone))):=hid (by rw [hRL]; unfold lackF; rfl)
 rw [<- hR,<- hRL]
 have HSN0:Hid (sn = subs.length):=hid hS.len
 simp only [FR.Fm.op,FR.Fm.name,FR.Fm.args,FR.Fm.subs,SL.v] at hS hop ⊢
 obtain ⟨fb,hfb⟩:∃ fb,fb = Obj.cells #[.int .u8 (op:Int),.string nm,.slice aa an ac,.slice sa sn sc] 35:=⟨_,rfl⟩
 obtain ⟨WB,hWB⟩:∃ WB,WB = W0.alloc fb:=⟨_,rfl⟩
 have hJB:FJ Bm W0 WB:=by rw [hWB]; exact (HK.Frm.refl _ W0).alloc fb
 have hBlt:=HK.blk_lt hM
 have HJ0:=hid hJB
 have HAE:Hid (∀ W,FJ Bm WB W -> AE Ba Bf Bm Bo M g o n c kind size lp fv uv bv rel gs W):=hid fun W h => (hA.fj hJB).fj h
 have HMB:Hid (WB.heap[Bm]? = some (.cells #[.bool b] 4 (0,0))):=hid (by rw [hWB]; exact HK.blk_alloc hM fb)
 have HBX:Hid (∀ W,FJ Bm WB W -> W.heap[W0.heap.size]? = some (Obj.cells #[.int .u8 (op:Int),.string nm,.slice aa an ac,.slice sa sn sc] 35)):=hid fun W h => by
  have h1:WB.heap[W0.heap.size]? = some fb:=by rw [hWB]; exact HK.blk_new W0 fb
  rw [<- hfb]
  exact HK.Frm.heap h h1 (by omega)
 have HFS:Hid (∀ W,FJ Bm WB W -> IsFs (SJ Bm n0) W ⟨sa,sn,sc⟩ subs):=hid fun W h => hS.turn (fj_turn (hJB.trans h) hn0)
 have HZ0:Hid (∀ W,FJ Bm WB W -> n0 <= W.heap.size):=hid fun W h => Nat.le_trans hn0 (hJB.trans h).size
 have HIH0:Hid (∀ (W:World) (b:Bool) (k:Nat) (f:Fm) (av sv:SL),FJ Bm WB W -> W.heap[Bm]? = some (.cells #[.bool b] 4 (0,0)) -> subs[k]? = some f -> IsFs (SJ Bm n0) W sv f.subs -> Calls Tryd.prog 39 #[.agg #[.int .u8 (f.op:Int),.string f.name,av.v,sv.v],.pointer (some ⟨Ba,0,none⟩),.pointer (some ⟨Bf,0,none⟩),.pointer (some ⟨Bm,0,none⟩),.pointer (some ⟨Bo,0,none⟩)] W (RetA W Bm (semF (decide (kind = 3)) rel (lookG gs) f) (b || lackF (lookG gs) f))):=hid fun W b k f av sv hj hm hf hs =>
  IH f (List.mem_of_getElem? hf) W Ba Bf Bm Bo M g o n c n0 size lp fv uv bv b av sv ((hA.fj hJB).fj hj) hm hn (Nat.le_trans hn0 (hJB.trans hj).size) hs (hops f (List.mem_of_getElem? hf))
 have HN:=hid hn
 have HFB:=hid hfb
 have HWB:=hid hWB
 have HOP:=hid hop1
 have HNE:=hid hA.ne
 have HBLT:=hid hBlt
 clear hR hRL hA hM hS IH hn0 hn hop hop1 hops hfb hWB hJB hBlt
 go_enter Tryd.func39,Tryd.ntmps39
 go_upto_if 17 with (fail)
 rw [<- HFB.out,<- HWB.out]
 go_cut [7] from 17 to 23 (fun v wx => ∃ (a:Nat) (l1:Bool),v = .int .i64 (a:Int) /\ a = (semL (decide (kind = 3)) rel (lookG gs) subs).1 /\ l1 = (lackL (lookG gs) subs).1 /\ FJ Bm WB wx /\ wx.heap[Bm]? = some (.cells #[.bool (b || l1)] 4 (0,0)))
 case first =>
  by_cases h0:sn = 0
  ·have d0:¬ 0 < sn:=by omega
   have HE:Hid (subs = []):=hid (List.eq_nil_of_length_eq_zero (by rw [<- HSN0.out]; exact h0))
   clear h0
   go_wp2_with (fail)
   go_meet
   exact ⟨0,false,rfl,by rw [HE.out,semL_zero],by rw [HE.out,lackL_zero],HK.Frm.refl _ _,by rw [Bool.or_false]; exact HMB.out⟩
  ·have d0:0 < sn:=by omega
   obtain ⟨f,hf⟩:∃ f,subs[0]? = some f:=⟨_,List.getElem?_eq_getElem (by rw [<- HSN0.out]; omega)⟩
   have hfs0:=HFS.out _ (HK.Frm.refl _ _)
   obtain ⟨g1,o1,hsa⟩:=hfs0.pos (show 0 < sn by omega)
   have HSN:Hid ((0:Int) < (sn:Int)):=hid (by omega)
   subst hsa
   obtain ⟨⟨p2a,p2n,p2c⟩,⟨p3a,p3n,p3c⟩,c0,c1,c2,c3,hta,hts,hto,hz⟩:=fs_at hfs0 hf
   rw [Nat.zero_mul,Nat.add_zero] at c0 c1 c2 c3
   have hg1:=World.block_lt_of_cell? WB ⟨g1,o1,none⟩ c0
   have hgn:g1 ≠ Bm:=fs_ne hfs0 (show 0 < sn by omega)
   have HCS:Hid (∀ W,FJ Bm WB W -> W.cell? ⟨g1,o1,none⟩ = some (.int .u8 (f.op:Int)) /\ W.cell? ⟨g1,o1 + 1,none⟩ = some (.string f.name) /\ W.cell? ⟨g1,o1 + 2,none⟩ = some (.slice p2a p2n p2c) /\ W.cell? ⟨g1,o1 + 3,none⟩ = some (.slice p3a p3n p3c)):=hid fun W h => by
    have e:=h.block g1 hg1 hgn
    exact ⟨(World.cell?_of_block (a:=⟨g1,_,none⟩) e).trans c0,(World.cell?_of_block (a:=⟨g1,_,none⟩) e).trans c1,(World.cell?_of_block (a:=⟨g1,_,none⟩) e).trans c2,(World.cell?_of_block (a:=⟨g1,_,none⟩) e).trans c3⟩
   have HTS:Hid (∀ W,FJ Bm WB W -> IsFs (SJ Bm n0) W ⟨p3a,p3n,p3c⟩ f.subs):=hid fun W h => hts.turn (fj_turn h (HZ0.out _ (HK.Frm.refl _ _)))
   obtain ⟨val,hval⟩:∃ val,val = semF (decide (kind = 3)) rel (lookG gs) f:=⟨_,rfl⟩
   obtain ⟨lk,hlk⟩:∃ lk,lk = lackF (lookG gs) f:=⟨_,rfl⟩
   have hih:∀ W,FJ Bm WB W -> W.heap[Bm]? = some (.cells #[.bool b] 4 (0,0)) -> _:=fun W hj hm => HIH0.out W b 0 f ⟨p2a,p2n,p2c⟩ ⟨p3a,p3n,p3c⟩ hj hm hf (HTS.out W hj)
   rw [<- hval,<- hlk] at hih
   unfold RetA at hih
   simp only [SL.v] at hih
   have HSM:Hid (val = (semL (decide (kind = 3)) rel (lookG gs) subs).1 /\ lk = (lackL (lookG gs) subs).1):=hid (by have:=semL_one (decide (kind = 3)) rel (lookG gs) hf; exact ⟨hval.trans this.1.symm,hlk.trans this.2.symm⟩)
   obtain ⟨p0,hp0⟩:∃ p0,p0 = f.op:=⟨_,rfl⟩
   obtain ⟨p1,hp1⟩:∃ p1,p1 = f.name:=⟨_,rfl⟩
   rw [<- hp0,<- hp1] at hih
   rw [<- hp0,<- hp1] at HCS
   have HIH:=hid hih
   clear hih hval hlk h0 hf hfs0 c0 c1 c2 c3 hta hts hto hz hp0 hp1 hg1 hgn
   go_wp2_with (fail)
   refine Go.RE.wp_region_eachg [18,19,20,21,22,23,7] (fun L x W => (FJ Bm WB W /\ (L 5 = false -> W.heap[Bm]? = some (.cells #[.bool b] 4 (0,0)))) /\ (L 0 = true -> x 18 = .func (.func 39) #[] #[.pointer (some ⟨Ba,0,none⟩),.pointer (some ⟨Bf,0,none⟩),.pointer (some ⟨Bm,0,none⟩),.pointer (some ⟨Bo,0,none⟩)]) /\ (L 1 = true -> x 19 = .pointer (some ⟨W0.heap.size,3,none⟩)) /\ (L 2 = true -> x 20 = .slice (some ⟨g1,o1,none⟩) sn sc) /\ (L 3 = true -> x 21 = .pointer (some ⟨g1,o1,none⟩)) /\ (L 4 = true -> x 22 = .agg #[.int .u8 (p0:Int),.string p1,.slice p2a p2n p2c,.slice p3a p3n p3c]) /\ (L 5 = true -> x 23 = .int .i64 (val:Int) /\ W.heap[Bm]? = some (.cells #[.bool (b || lk)] 4 (0,0))) /\ (L 6 = true -> x 7 = .int .i64 (val:Int))) (by kernel_rfl) (by kernel_rfl) (by kernel_rfl) ?_ ((Go.RE.Each.cons ?_ (Go.RE.Each.cons ?_ (Go.RE.Each.cons ?_ (Go.RE.Each.cons ?_ (Go.RE.Each.cons ?_ (Go.RE.Each.cons ?_ (Go.RE.Each.cons ?_ Go.RE.Each.nil)))))))) ?_
   ·exact fun x => ⟨⟨HK.Frm.drew (HK.Frm.refl _ _),fun _ => HMB.out⟩,fun h => (by cases h),fun h => (by cases h),fun h => (by cases h),fun h => (by cases h),fun h => (by cases h),fun h => (by cases h),fun h => (by cases h)⟩
   ·intro L x a wR K hL hd hf hx hΦ hK
    obtain ⟨hI,f0,f1,f2,f3,f4,f5,f6⟩:=hΦ
    refine ⟨fun _ => ?_,fun h => absurd h (by rw [Go.RE.wanted_none rfl]; decide)⟩
    have e1:a.tmps[1]? = some (.pointer (some ⟨Ba,0,none⟩)):=hf 1 (of_decide_eq_true (by kernel_rfl))
    have c:=HK.blk_cell (HAE.out _ hI.1).ha 0
    clear hf hx hd
    go_simp
    refine hK _ _ ?_
    exact ⟨hI,fun _ => rfl,fun h => f1 h,fun h => f2 h,fun h => f3 h,fun h => f4 h,fun h => f5 h,fun h => f6 h⟩
   ·intro L x a wR K hL hd hf hx hΦ hK
    obtain ⟨hI,f0,f1,f2,f3,f4,f5,f6⟩:=hΦ
    refine ⟨fun _ => ?_,fun h => absurd h (by rw [Go.RE.wanted_none rfl]; decide)⟩
    have e5:a.tmps[5]? = some (.pointer (some ⟨W0.heap.size,0,none⟩)):=hf 5 (of_decide_eq_true (by kernel_rfl))
    clear hf hx hd
    go_simp
    refine hK _ _ ?_
    exact ⟨hI,fun h => f0 h,fun _ => rfl,fun h => f2 h,fun h => f3 h,fun h => f4 h,fun h => f5 h,fun h => f6 h⟩
   ·intro L x a wR K hL hd hf hx hΦ hK
    obtain ⟨hI,f0,f1,f2,f3,f4,f5,f6⟩:=hΦ
    refine ⟨fun _ => ?_,fun h => absurd h (by rw [Go.RE.wanted_none rfl]; decide)⟩
    have d1:=f1 (hd 1 (by kernel_rfl))
    have e19:a.tmps[19]? = some (x 19):=hx 1 _ 19 rfl rfl (hd 1 (by kernel_rfl))
    rw [d1] at e19
    have c:=HK.blk_cell (HBX.out _ hI.1) 3
    clear hf hx hd
    go_simp
    refine hK _ _ ?_
    exact ⟨hI,fun h => f0 h,fun h => f1 h,fun _ => rfl,fun h => f3 h,fun h => f4 h,fun h => f5 h,fun h => f6 h⟩
   ·intro L x a wR K hL hd hf hx hΦ hK
    obtain ⟨hI,f0,f1,f2,f3,f4,f5,f6⟩:=hΦ
    refine ⟨fun _ => ?_,fun h => absurd h (by rw [Go.RE.wanted_none rfl]; decide)⟩
    have d2:=f2 (hd 2 (by kernel_rfl))
    have e20:a.tmps[20]? = some (x 20):=hx 2 _ 20 rfl rfl (hd 2 (by kernel_rfl))
    rw [d2] at e20
    have l1:=HSN.out
    clear hf hx hd
    go_simp
    refine hK _ _ ?_
    exact ⟨hI,fun h => f0 h,fun h => f1 h,fun h => f2 h,fun _ => rfl,fun h => f4 h,fun h => f5 h,fun h => f6 h⟩
   ·intro L x a wR K hL hd hf hx hΦ hK
    obtain ⟨hI,f0,f1,f2,f3,f4,f5,f6⟩:=hΦ
    refine ⟨fun _ => ?_,fun h => absurd h (by rw [Go.RE.wanted_none rfl]; decide)⟩
    have d3:=f3 (hd 3 (by kernel_rfl))
    have e21:a.tmps[21]? = some (x 21):=hx 3 _ 21 rfl rfl (hd 3 (by kernel_rfl))
    rw [d3] at e21
    obtain ⟨c0,c1,c2,c3⟩:=HCS.out _ hI.1
    clear hf hx hd
    go_simp
    refine hK _ _ ?_
    exact ⟨hI,fun h => f0 h,fun h => f1 h,fun h => f2 h,fun h => f3 h,fun _ => rfl,fun h => f5 h,fun h => f6 h⟩
   ·intro L x a wR K hL hd hf hx hΦ hK
    obtain ⟨hI,f0,f1,f2,f3,f4,f5,f6⟩:=hΦ
    refine ⟨fun _ => ?_,fun h => absurd h (by rw [Go.RE.wanted_none rfl]; decide)⟩
    have d0:=f0 (hd 0 (by kernel_rfl))
    have e18:a.tmps[18]? = some (x 18):=hx 0 _ 18 rfl rfl (hd 0 (by kernel_rfl))
    rw [d0] at e18
    have d4:=f4 (hd 4 (by kernel_rfl))
    have e22:a.tmps[22]? = some (x 22):=hx 4 _ 22 rfl rfl (hd 4 (by kernel_rfl))
    rw [d4] at e22
    have hm5:=hI.2 hL
    clear hf hx hd
    go_simp
    go_at_call 39
    with_reducible refine (HIH.out _ hI.1 hm5).mono ?_
    rintro e w' ⟨rfl,hJ8,hm8⟩
    simp only
    refine hK _ _ ?_
    exact ⟨⟨hI.1.trans hJ8,fun h => by cases h⟩,fun h => f0 h,fun h => f1 h,fun h => f2 h,fun h => f3 h,fun h => f4 h,fun _ => ⟨rfl,hm8⟩,fun h => f6 h⟩
   ·intro L x a wR K hL hd hf hx hΦ hK
    obtain ⟨hI,f0,f1,f2,f3,f4,f5,f6⟩:=hΦ
    refine ⟨fun _ => ?_,fun h => absurd h (by rw [Go.RE.wanted_none rfl]; decide)⟩
    have d5:=f5 (hd 5 (by kernel_rfl))
    have e23:a.tmps[23]? = some (x 23):=hx 5 _ 23 rfl rfl (hd 5 (by kernel_rfl))
    rw [d5.1] at e23
    clear hf hx hd
    go_simp
    refine hK _ _ ?_
    exact ⟨hI,fun h => f0 h,fun h => f1 h,fun h => f2 h,fun h => f3 h,fun h => f4 h,fun h => f5 h,fun _ => rfl⟩
   ·rintro x W ⟨hI,f0,f1,f2,f3,f4,f5,f6⟩
    simp only [Exit.then]
    go_step
    go_meet
    exact ⟨val,lk,f6 rfl,HSM.out.1,HSM.out.2,hI.1,(f5 rfl).2⟩
 case rest =>
  obtain ⟨a1,l1,rfl,ha1,hl1,hJ1,hm1⟩:=hcut
  obtain ⟨WC,hWC⟩:∃ WC:World,WC = wc:=⟨_,rfl⟩
  subst hWC
  have HA1:=hid ha1
  have HL1:=hid hl1
  have HJC:=hid hJ1
  obtain ⟨b1,hb1⟩:∃ b1,b1 = (b || l1):=⟨_,rfl⟩
  rw [<- hb1] at hm1
  have HB1:=hid hb1
  have HMC:=hid hm1
  have x3:=HK.blk_cell (HBX.out _ hJ1) 3
  clear ha1 hl1 hJ1 hb1 hm1
  go_upto_if 27 with (fail)
  go_cut [8] from 27 to 33 (fun v wx => ∃ (a:Nat) (l2:Bool),v = .int .i64 (a:Int) /\ a = (semL (decide (kind = 3)) rel (lookG gs) subs).2 /\ l2 = (lackL (lookG gs) subs).2 /\ FJ Bm WC wx /\ wx.heap[Bm]? = some (.cells #[.bool (b1 || l2)] 4 (0,0)))
  case first =>
   by_cases h0:sn <= 1
   ·have d0:¬ 1 < sn:=by omega
    have HE:=hid (semL_two0 (decide (kind = 3)) rel (lookG gs) (show subs.length <= 1 by rw [<- HSN0.out]; exact h0))
    clear h0
    go_wp2_with (fail)
    go_meet
    exact ⟨0,false,rfl,HE.out.1.symm,HE.out.2.symm,HK.Frm.refl _ _,by rw [Bool.or_false]; exact HMC.out⟩
   ·have d0:1 < sn:=by omega
    obtain ⟨f,hf⟩:∃ f,subs[1]? = some f:=⟨_,List.getElem?_eq_getElem (by rw [<- HSN0.out]; omega)⟩
    have hfs0:=HFS.out _ HJC.out
    obtain ⟨g1,o1,hsa⟩:=hfs0.pos (show 0 < sn by omega)
    have HSN:Hid ((1:Int) < (sn:Int)):=hid (by omega)
    subst hsa
    obtain ⟨⟨p2a,p2n,p2c⟩,⟨p3a,p3n,p3c⟩,c0,c1,c2,c3,hta,hts,hto,hz⟩:=fs_at hfs0 hf
    rw [Nat.one_mul] at c0 c1 c2 c3
    rw [Nat.add_assoc] at c1 c2 c3
    have hg1:=World.block_lt_of_cell? WC ⟨g1,o1 + 4,none⟩ c0
    have hgn:g1 ≠ Bm:=fs_ne hfs0 (show 0 < sn by omega)
    have HCS:Hid (∀ W,FJ Bm WC W -> W.cell? ⟨g1,o1 + 4,none⟩ = some (.int .u8 (f.op:Int)) /\ W.cell? ⟨g1,o1 + 5,none⟩ = some (.string f.name) /\ W.cell? ⟨g1,o1 + 6,none⟩ = some (.slice p2a p2n p2c) /\ W.cell? ⟨g1,o1 + 7,none⟩ = some (.slice p3a p3n p3c)):=hid fun W h => by
     have e:=h.block g1 hg1 hgn
     exact ⟨(World.cell?_of_block (a:=⟨g1,_,none⟩) e).trans c0,(World.cell?_of_block (a:=⟨g1,_,none⟩) e).trans c1,(World.cell?_of_block (a:=⟨g1,_,none⟩) e).trans c2,(World.cell?_of_block (a:=⟨g1,_,none⟩) e).trans c3⟩
    have HTS:Hid (∀ W,FJ Bm WC W -> IsFs (SJ Bm n0) W ⟨p3a,p3n,p3c⟩ f.subs):=hid fun W h => hts.turn (fj_turn h (HZ0.out _ HJC.out))
    obtain ⟨val,hval⟩:∃ val,val = semF (decide (kind = 3)) rel (lookG gs) f:=⟨_,rfl⟩
    obtain ⟨lk,hlk⟩:∃ lk,lk = lackF (lookG gs) f:=⟨_,rfl⟩
    have hih:∀ W,FJ Bm WC W -> W.heap[Bm]? = some (.cells #[.bool b1] 4 (0,0)) -> _:=fun W hj hm => HIH0.out W b1 1 f ⟨p2a,p2n,p2c⟩ ⟨p3a,p3n,p3c⟩ (HJC.out.trans hj) hm hf (HTS.out W hj)
    rw [<- hval,<- hlk] at hih
    unfold RetA at hih
    simp only [SL.v] at hih
    have HSM:Hid (val = (semL (decide (kind = 3)) rel (lookG gs) subs).2 /\ lk = (lackL (lookG gs) subs).2):=hid (by have:=semL_two (decide (kind = 3)) rel (lookG gs) hf; exact ⟨hval.trans this.1.symm,hlk.trans this.2.symm⟩)
    obtain ⟨p0,hp0⟩:∃ p0,p0 = f.op:=⟨_,rfl⟩
    obtain ⟨p1,hp1⟩:∃ p1,p1 = f.name:=⟨_,rfl⟩
    rw [<- hp0,<- hp1] at hih
    rw [<- hp0,<- hp1] at HCS
    have HIH:=hid hih
    clear hih hval hlk h0 hf hfs0 c0 c1 c2 c3 hta hts hto hz hp0 hp1 hg1 hgn
    go_wp2_with (fail)
    refine Go.RE.wp_region_eachg [28,29,30,31,32,33,8] (fun L x W => (FJ Bm WC W /\ (L 5 = false -> W.heap[Bm]? = some (.cells #[.bool b1] 4 (0,0)))) /\ (L 0 = true -> x 28 = .func (.func 39) #[] #[.pointer (some ⟨Ba,0,none⟩),.pointer (some ⟨Bf,0,none⟩),.pointer (some ⟨Bm,0,none⟩),.pointer (some ⟨Bo,0,none⟩)]) /\ (L 1 = true -> x 29 = .pointer (some ⟨W0.heap.size,3,none⟩)) /\ (L 2 = true -> x 30 = .slice (some ⟨g1,o1,none⟩) sn sc) /\ (L 3 = true -> x 31 = .pointer (some ⟨g1,o1 + 4,none⟩)) /\ (L 4 = true -> x 32 = .agg #[.int .u8 (p0:Int),.string p1,.slice p2a p2n p2c,.slice p3a p3n p3c]) /\ (L 5 = true -> x 33 = .int .i64 (val:Int) /\ W.heap[Bm]? = some (.cells #[.bool (b1 || lk)] 4 (0,0))) /\ (L 6 = true -> x 8 = .int .i64 (val:Int))) (by kernel_rfl) (by kernel_rfl) (by kernel_rfl) ?_ ((Go.RE.Each.cons ?_ (Go.RE.Each.cons ?_ (Go.RE.Each.cons ?_ (Go.RE.Each.cons ?_ (Go.RE.Each.cons ?_ (Go.RE.Each.cons ?_ (Go.RE.Each.cons ?_ Go.RE.Each.nil)))))))) ?_
    ·exact fun x => ⟨⟨HK.Frm.drew (HK.Frm.refl _ _),fun _ => HMC.out⟩,fun h => (by cases h),fun h => (by cases h),fun h => (by cases h),fun h => (by cases h),fun h => (by cases h),fun h => (by cases h),fun h => (by cases h)⟩
    ·intro L x a wR K hL hd hf hx hΦ hK
     obtain ⟨hI,f0,f1,f2,f3,f4,f5,f6⟩:=hΦ
     refine ⟨fun _ => ?_,fun h => absurd h (by rw [Go.RE.wanted_none rfl]; decide)⟩
     have e1:a.tmps[1]? = some (.pointer (some ⟨Ba,0,none⟩)):=hf 1 (of_decide_eq_true (by kernel_rfl))
     have c:=HK.blk_cell (HAE.out _ (HJC.out.trans hI.1)).ha 0
     clear hf hx hd
     go_simp
     refine hK _ _ ?_
     exact ⟨hI,fun _ => rfl,fun h => f1 h,fun h => f2 h,fun h => f3 h,fun h => f4 h,fun h => f5 h,fun h => f6 h⟩
    ·intro L x a wR K hL hd hf hx hΦ hK
     obtain ⟨hI,f0,f1,f2,f3,f4,f5,f6⟩:=hΦ
     refine ⟨fun _ => ?_,fun h => absurd h (by rw [Go.RE.wanted_none rfl]; decide)⟩
     have e5:a.tmps[5]? = some (.pointer (some ⟨W0.heap.size,0,none⟩)):=hf 5 (of_decide_eq_true (by kernel_rfl))
     clear hf hx hd
     go_simp
     refine hK _ _ ?_
     exact ⟨hI,fun h => f0 h,fun _ => rfl,fun h => f2 h,fun h => f3 h,fun h => f4 h,fun h => f5 h,fun h => f6 h⟩
    ·intro L x a wR K hL hd hf hx hΦ hK
     obtain ⟨hI,f0,f1,f2,f3,f4,f5,f6⟩:=hΦ
     refine ⟨fun _ => ?_,fun h => absurd h (by rw [Go.RE.wanted_none rfl]; decide)⟩
     have d1:=f1 (hd 1 (by kernel_rfl))
     have e29:a.tmps[29]? = some (x 29):=hx 1 _ 29 rfl rfl (hd 1 (by kernel_rfl))
     rw [d1] at e29
     have c:=HK.blk_cell (HBX.out _ (HJC.out.trans hI.1)) 3
     clear hf hx hd
     go_simp
     refine hK _ _ ?_
     exact ⟨hI,fun h => f0 h,fun h => f1 h,fun _ => rfl,fun h => f3 h,fun h => f4 h,fun h => f5 h,fun h => f6 h⟩
    ·intro L x a wR K hL hd hf hx hΦ hK
     obtain ⟨hI,f0,f1,f2,f3,f4,f5,f6⟩:=hΦ
     refine ⟨fun _ => ?_,fun h => absurd h (by rw [Go.RE.wanted_none rfl]; decide)⟩
     have d2:=f2 (hd 2 (by kernel_rfl))
     have e30:a.tmps[30]? = some (x 30):=hx 2 _ 30 rfl rfl (hd 2 (by kernel_rfl))
     rw [d2] at e30
     have l1:=HSN.out
     clear hf hx hd
     go_simp
     refine hK _ _ ?_
     exact ⟨hI,fun h => f0 h,fun h => f1 h,fun h => f2 h,fun _ => rfl,fun h => f4 h,fun h => f5 h,fun h => f6 h⟩
    ·intro L x a wR K hL hd hf hx hΦ hK
     obtain ⟨hI,f0,f1,f2,f3,f4,f5,f6⟩:=hΦ
     refine ⟨fun _ => ?_,fun h => absurd h (by rw [Go.RE.wanted_none rfl]; decide)⟩
     have d3:=f3 (hd 3 (by kernel_rfl))
     have e31:a.tmps[31]? = some (x 31):=hx 3 _ 31 rfl rfl (hd 3 (by kernel_rfl))
     rw [d3] at e31
     obtain ⟨c0,c1,c2,c3⟩:=HCS.out _ hI.1
     clear hf hx hd
     go_simp
     refine hK _ _ ?_
     exact ⟨hI,fun h => f0 h,fun h => f1 h,fun h => f2 h,fun h => f3 h,fun _ => rfl,fun h => f5 h,fun h => f6 h⟩
    ·intro L x a wR K hL hd hf hx hΦ hK
     obtain ⟨hI,f0,f1,f2,f3,f4,f5,f6⟩:=hΦ
     refine ⟨fun _ => ?_,fun h => absurd h (by rw [Go.RE.wanted_none rfl]; decide)⟩
     have d0:=f0 (hd 0 (by kernel_rfl))
     have e28:a.tmps[28]? = some (x 28):=hx 0 _ 28 rfl rfl (hd 0 (by kernel_rfl))
     rw [d0] at e28
     have d4:=f4 (hd 4 (by kernel_rfl))
     have e32:a.tmps[32]? = some (x 32):=hx 4 _ 32 rfl rfl (hd 4 (by kernel_rfl))
     rw [d4] at e32
     have hm5:=hI.2 hL
     clear hf hx hd
     go_simp
     go_at_call 39
     with_reducible refine (HIH.out _ hI.1 hm5).mono ?_
     rintro e w' ⟨rfl,hJ8,hm8⟩
     simp only
     refine hK _ _ ?_
     exact ⟨⟨hI.1.trans hJ8,fun h => by cases h⟩,fun h => f0 h,fun h => f1 h,fun h => f2 h,fun h => f3 h,fun h => f4 h,fun _ => ⟨rfl,hm8⟩,fun h => f6 h⟩
    ·intro L x a wR K hL hd hf hx hΦ hK
     obtain ⟨hI,f0,f1,f2,f3,f4,f5,f6⟩:=hΦ
     refine ⟨fun _ => ?_,fun h => absurd h (by rw [Go.RE.wanted_none rfl]; decide)⟩
     have d5:=f5 (hd 5 (by kernel_rfl))
     have e33:a.tmps[33]? = some (x 33):=hx 5 _ 33 rfl rfl (hd 5 (by kernel_rfl))
     rw [d5.1] at e33
     clear hf hx hd
     go_simp
     refine hK _ _ ?_
     exact ⟨hI,fun h => f0 h,fun h => f1 h,fun h => f2 h,fun h => f3 h,fun h => f4 h,fun h => f5 h,fun _ => rfl⟩
    ·rintro x W ⟨hI,f0,f1,f2,f3,f4,f5,f6⟩
     simp only [Exit.then]
     go_step
     go_meet
     exact ⟨val,lk,f6 rfl,HSM.out.1,HSM.out.2,hI.1,(f5 rfl).2⟩
  case rest =>
   obtain ⟨a2,l2,rfl,ha2,hl2,hJ2,hm2⟩:=hcut
   obtain ⟨WD,hWD⟩:∃ WD:World,WD = wc:=⟨_,rfl⟩
   subst hWD
   have hJD:=HJC.out.trans hJ2
   have HJD:=hid (HJ0.out.trans hJD)
   have hae:=HAE.out _ hJD
   have HAD:=hid hae
   have hs16:=semL_16 (decide (kind = 3)) hok (lookG_ok hg) subs
   rw [<- HA1.out,<- ha2] at hs16
   obtain ⟨h161,h162⟩:=hs16
   obtain ⟨b2,hb2⟩:∃ b2,b2 = (b1 || l2):=⟨_,rfl⟩
   rw [<- hb2] at hm2
   have HB2:=hid hb2
   have HA2:=hid ha2
   have HL2:=hid hl2
   have HMD:=hid hm2
   have x0:=HK.blk_cell (HBX.out _ hJD) 0
   have x1:=HK.blk_cell (HBX.out _ hJD) 1
   have y0:=HK.blk_cell hae.ho 0
   have y2:=HK.blk_cell hae.ho 2
   have z0:=HK.blk_cell hae.hf 0
   have HRR:=hid hae.hr
   clear HAE HBX HFS HZ0 HIH0 x3
   by_cases h1:op = 1
   ·have e1:(op:Int) = 1:=by omega
    have hlk:(Instr.lookup 76 (.map (some M)) (.string nm) true).run Tryd.prog WD = .ok (.tuple #[.int .i64 (((lookG gs nm).getD 0:Nat):Int),.bool (lookG gs nm).isSome]) WD:=by
     obtain ⟨es,cl,hm,hgs⟩:=hae.hm
     rw [run_lookup_ok_str nm Tryd.underlying76 Tryd.underlying9 (zero3 WD) hm hgs,lookG_val hg]
     unfold lookG
     rw [Option.isSome_map]
    obtain ⟨lv,hlv⟩:∃ lv,lv = (lookG gs nm).getD 0:=⟨_,rfl⟩
    obtain ⟨lf,hlf⟩:∃ lf,lf = (lookG gs nm).isSome:=⟨_,rfl⟩
    rw [<- hlv,<- hlf] at hlk
    have HRV:Hid (R = lv):=hid (by rw [HR.out,hlv]; unfold nodeS; rw [if_pos h1])
    have HRB:Hid ((b || RL) = (b2 || !lf)):=hid (by
     rw [HRL.out,HB2.out,HB1.out,<- HL1.out,<- HL2.out,hlf,decide_eq_true h1,Bool.true_and]
     cases lookG gs nm <;> simp [Bool.or_assoc])
    have m0:=HK.blk_cell hm2 0
    have mf:=HK.blk_frozen hm2 0
    clear h1 hlv hlf hJ2 hm2 hJD hae hl2 ha2 hb2 y0 y2 h161 h162
    have HFIN:Hid (∀ v:Bool,(b2 || !lf) = v -> RetA W0 Bm R (b || RL) (.returned (.int .i64 (lv:Int))) (WD.setCell ⟨Bm,0,none⟩ (.bool v))):=hid fun v hv => by
     rw [HRB.out,HRV.out]
     exact ⟨rfl,HJD.out.setCell (p:=⟨Bm,0,none⟩) (.inl rfl) _,by have:=HK.blk_set HMD.out 0 (.bool v); rw [this,hv]; rfl⟩
    cases b2
    ·go_wp2_with (fail)
     go_ret
     exact HFIN.out _ (by simp)
    ·go_wp2_with (fail)
     go_ret
     exact HFIN.out _ (by simp)
   ·have e1:((op:Int) == 1) = false:=by simp; omega
    have e2:¬ (op:Int) = 1:=by omega
    have HRV:Hid (R = maskN n fun w => holdsB (decide (kind = 3)) op w (rel.getD w 0) a1 a2):=hid (by rw [HR.out,<- HA1.out,<- HA2.out]; unfold nodeS; rw [if_neg h1,HN.out])
    have HRB:Hid ((b || RL) = b2):=hid (by rw [HRL.out,HB2.out,HB1.out,<- HL1.out,<- HL2.out,decide_eq_false h1,Bool.false_and,Bool.or_false,Bool.or_assoc])
    have HHC:Hid (∀ (k s:Nat),k < n -> s < 16 -> Calls Tryd.prog 40 #[.int .u8 (kind:Int),.int .u8 (op:Int),.int .i64 (k:Int),.int .i64 (s:Int),.int .i64 (a1:Int),.int .i64 (a2:Int)] WD fun e w' => e = .returned (.bool (holdsB (decide (kind = 3)) op k s a1 a2)) /\ w' = WD):=hid fun k s hkn hs => holds_call WD kind op k s a1 a2 hk HOP.out (by omega) hs h161 h162
    have HOKR:=hid hok
    have HFIN:Hid (RetA W0 Bm R (b || RL) (.returned (.int .i64 (R:Int))) WD):=hid ⟨rfl,HJD.out,by rw [HRB.out]; exact HMD.out⟩
    obtain ⟨P,hP⟩:∃ P:Nat -> Bool,P = fun w => holdsB (decide (kind = 3)) op w (rel.getD w 0) a1 a2:=⟨_,rfl⟩
    rw [<- hP] at HRV
    have HP:=hid hP
    clear h1 hJ2 hm2 hJD hae hl2 ha2 hb2 h161 h162 hk hok hg hP x1 z0
    go_wp2_with (fail)
    go_loopw [11,53] (fun m i wr => ∃ k:Nat,k <= n /\ i = .int .i64 k /\ m = .int .i64 (maskN k P:Nat) /\ wr = WD) (fun _ i _ => n - (intOf i).toNat)
    case atStart => exact ⟨0,by omega,rfl,rfl,rfl⟩
    case round =>
     obtain ⟨k,hk,rfl,rfl,rfl⟩:=hrel
     by_cases hkn:(k:Int) < (n:Int)
     ·have b0:(0:Int) <= (k:Int):=by omega
      obtain ⟨x,hx⟩:∃ x,rel[k]? = some x:=⟨_,List.getElem?_eq_getElem (by rw [HN.out]; omega)⟩
      have hc:=HRR.out k x hx
      have hgx:rel.getD k 0 = x:=getD_get hx
      have hx16:x < 16:=by rw [<- hgx]; exact HOKR.out.get k
      have hcl:=HHC.out k x (by omega) hx16
      obtain ⟨hb,hhb⟩:∃ hb,hb = holdsB (decide (kind = 3)) op k x a1 a2:=⟨_,rfl⟩
      rw [<- hhb] at hcl
      have HCL:=hid hcl
      have hPk:Hid (P k = hb):=hid (by rw [HP.out,hhb,<- hgx])
      have f1:=shl_wrap (k:=k) (by omega)
      have hs16:1 <<< k < 16:=one_shl_lt (by omega)
      have hm16:maskN k P < 16:=by
       have h1:=maskN_lt P k
       have h2:=pow_le4 (n:=k) (by omega)
       omega
      have f2:=bits_or (maskN k P) (1 <<< k) (by omega) (by omega)
      obtain ⟨q,hq⟩:∃ q,q = 1 <<< k:=⟨_,rfl⟩
      rw [<- hq] at f1 f2
      obtain ⟨mk,hmk⟩:∃ mk,mk = maskN k P:=⟨_,rfl⟩
      rw [<- hmk] at f2 hm16
      have HNX:Hid (maskN (k + 1) P = if hb = true then mk ||| q else mk):=hid (by unfold maskN; rw [hPk.out,hmk,hq])
      obtain ⟨u,hu⟩:∃ u,u = mk ||| q:=⟨_,rfl⟩
      rw [<- hu] at f2 HNX
      have f1':=(IntWalk.i64_left _).symm.trans f1
      have hmin:min k 64 = k:=by omega
      have HQ:=hid hq
      have HMK:=hid hmk
      clear hcl hhb hq hu hs16 hx hgx hmk
      rw [<- HMK.out]
      cases hb
      ·go_wp2_with (go_at_call 40; ((with_reducible refine HCL.out.mono ?_); rintro e w5 ⟨rfl,hw5⟩; have hw5:=hw5.symm; subst hw5))
       go_roundw
       case rel => exact ⟨k + 1,by omega,by go_num,by rw [HNX.out]; rfl,trivial⟩
       case measure => simp [intOf]; omega
      ·go_wp2_with (go_at_call 40; ((with_reducible refine HCL.out.mono ?_); rintro e w5 ⟨rfl,hw5⟩; have hw5:=hw5.symm; subst hw5))
       go_roundw
       case rel => exact ⟨k + 1,by omega,by go_num,by rw [HNX.out]; rfl,trivial⟩
       case measure => simp [intOf]; omega
     ·obtain rfl:k = n:=by omega
      rw [<- HRV.out]
      have HFIN2:=HFIN
      go_wp2_with (fail)
      go_ret
      exact HFIN.out
mutual
theorem at_ok (kind:Nat) (hk:kind = 3 ∨ kind = 4) (rel:List Nat) (hok:FrOk rel) (gs:List (ByteArray × Value)) (hg:GOk rel.length gs):∀ f:Fm,AtOk kind rel gs f
 | .mk op nm args subs => at_of kind hk rel hok gs hg op nm args subs (at_all kind hk rel hok gs hg subs)
theorem at_all (kind:Nat) (hk:kind = 3 ∨ kind = 4) (rel:List Nat) (hok:FrOk rel) (gs:List (ByteArray × Value)) (hg:GOk rel.length gs):∀ (l:List Fm),∀ f ∈ l,AtOk kind rel gs f
 | [],f,h => by cases h
 | u :: r,f,h => by
  rcases List.mem_cons.1 h with h | h
  ·rw [h]; exact at_ok kind hk rel hok gs hg u
  ·exact at_all kind hk rel hok gs hg r f h
end
end Go.Proofs.YtflmllablfjfeaaDoor
