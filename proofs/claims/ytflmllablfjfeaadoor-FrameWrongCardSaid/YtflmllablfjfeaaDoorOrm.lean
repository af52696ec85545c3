import Derived.Test.YtflmllablfjfeaaDoorOrn
namespace Go.Proofs.YtflmllablfjfeaaDoor
open Go.RowKit Go.HK Go.FR Go.HRB Lib
set_option linter.unusedVariables false
set_option linter.unusedSimpArgs false
set_option linter.unusedSectionVars false
attribute [local go_sem] Oper.semAt_some wide_fn asked_wide wide_depth
structure NtB (wb:World) (kind n:Nat) (na:Option Addr) (nk nc:Nat) (i:Nat) (W:World):Prop where
 hk:W.heap[wb.heap.size]? = some (.cells #[.int .u8 (kind:Int)] 5 (0,0))
 hn:W.heap[wb.heap.size + 1]? = some (.cells #[.slice na nk nc] 63 (0,0))
 hs:W.heap[wb.heap.size + 2]? = some (.cells #[.int .i64 (n:Int)] 3 (0,0))
 hi:W.heap[wb.heap.size + 3]? = some (.cells #[.int .i64 (i:Int)] 3 (0,0))
 hr:W.heap[wb.heap.size + 4]? = some (.cells #[.int .u8 0,.int .i64 0,.slice none 0 0,.int .i64 0,.slice none 0 0,.slice none 0 0,.slice none 0 0] 30 (0,0))
 he:W.heap[wb.heap.size + 5]? = some (.cells #[.int .i64 0] 38 (0,0))
 hB:Below wb.heap.size wb W
 hz:wb.heap.size + 6 <= W.heap.size
theorem below_same {B:Nat} {w A C:World} (h:Below B w A) (o:C.os = A.os) (t:C.tape = A.tape) (u:C.output = A.output) (z:A.heap.size <= C.heap.size) (hs:∀ k,k < B -> C.heap[k]? = A.heap[k]?):Below B w C :=
 ⟨o.trans h.os,t.trans h.tape,u.trans h.output,Nat.le_trans h.size z,fun k hk => (hs k hk).trans (h.block k hk)⟩
theorem NtB.same {wb:World} {kind n:Nat} {na:Option Addr} {nk nc i:Nat} {A C:World} (h:NtB wb kind n na nk nc i A) (o:C.os = A.os) (t:C.tape = A.tape) (u:C.output = A.output) (z:A.heap.size <= C.heap.size) (hs:∀ k,k < wb.heap.size + 6 -> C.heap[k]? = A.heap[k]?):NtB wb kind n na nk nc i C :=
 ⟨(hs _ (by omega)).trans h.hk,(hs _ (by omega)).trans h.hn,(hs _ (by omega)).trans h.hs,(hs _ (by omega)).trans h.hi,(hs _ (by omega)).trans h.hr,(hs _ (by omega)).trans h.he,below_same h.hB o t u z fun k hk => hs k (by omega),Nat.le_trans h.hz z⟩
theorem NtB.below {wb:World} {kind n:Nat} {na:Option Addr} {nk nc i:Nat} {A C:World} (h:NtB wb kind n na nk nc i A) (hb:Below A.heap.size A C):NtB wb kind n na nk nc i C :=
 h.same hb.os hb.tape hb.output hb.size fun k hk => hb.block k (Nat.lt_of_lt_of_le hk h.hz)
theorem NtB.turn {wb:World} {kind n:Nat} {na:Option Addr} {nk nc i b B:Nat} {A C:World} (h:NtB wb kind n na nk nc i A) (hB:wb.heap.size + 6 <= B) (hb:b = B + 6) (ht:Turn b (B + 3) A C):NtB wb kind n na nk nc i C :=
 h.same ht.os ht.tape ht.output ht.size fun k hk => by
  have hlt:k < A.heap.size:=Nat.lt_of_lt_of_le hk h.hz
  rw [ht.same k A.heap[k] (Array.getElem?_eq_getElem hlt) (by omega) (.inl (by omega)),<- Array.getElem?_eq_getElem hlt]
theorem info46o:(Tryd.prog.info? 46).map (fun i => (i.zero,i.size,i.bytes)) = some (some (.agg #[.string ⟨#[]⟩,.int .i64 0,.int .i64 0]),3,32):=by kernel_rfl
theorem make_facts (w:World) (k:Nat) (h:k <= 1000000):(Instr.makeSlice 26 (.int .i64 (k:Int)) (.int .i64 (k:Int))).run Tryd.prog w = .ok (.slice (some ⟨w.heap.size,0,none⟩) k k) (w.alloc (.cells (madeCells #[.string ⟨#[]⟩,.int .i64 0,.int .i64 0] (k * 3)) 46)):=by
 obtain ⟨i,hi,hz⟩:=Option.map_eq_some_iff.1 info46o
 simp only [Prod.mk.injEq] at hz
 have hr:=run_make (P:=Tryd.prog) w 26 46 i (.agg #[.string ⟨#[]⟩,.int .i64 0,.int .i64 0]) Tryd.underlying26 hi hz.1 .i64 .i64 (k:Int) (k:Int) (by omega) (Int.le_refl _) (by rw [hz.2.2]; omega) (by omega)
 rw [hz.2.1] at hr
 simp only [Int.toNat_natCast] at hr
 exact hr
theorem put7_same {w:World} {M:Nat} {cs:Array Value} {t:TypeId} (h:w.heap[M]? = some (.cells cs t (0,0))) (hc:cs.size = 7) (v0 v1 v2 v3 v4 v5 v6:Value):(((((((w.setCell ⟨M,0,none⟩ v0).setCell ⟨M,1,none⟩ v1).setCell ⟨M,2,none⟩ v2).setCell ⟨M,3,none⟩ v3).setCell ⟨M,4,none⟩ v4).setCell ⟨M,5,none⟩ v5).setCell ⟨M,6,none⟩ v6).heap[M]? = some (.cells #[v0,v1,v2,v3,v4,v5,v6] t (0,0)):=by
 obtain ⟨l⟩:=cs
 obtain ⟨a0,a1,a2,a3,a4,a5,a6,rfl⟩:∃ a0 a1 a2 a3 a4 a5 a6,l = [a0,a1,a2,a3,a4,a5,a6]:=by
  match l,hc with
  | [a0,a1,a2,a3,a4,a5,a6],_ => exact ⟨_,_,_,_,_,_,_,rfl⟩
 have:=HK.blk_set (HK.blk_set (HK.blk_set (HK.blk_set (HK.blk_set (HK.blk_set (HK.blk_set h 0 v0) 1 v1) 2 v2) 3 v3) 4 v4) 5 v5) 6 v6
 simpa using this
theorem put7_other {w:World} {M k:Nat} {o:Obj} (h:w.heap[k]? = some o) (hk:k ≠ M) (v0 v1 v2 v3 v4 v5 v6:Value):(((((((w.setCell ⟨M,0,none⟩ v0).setCell ⟨M,1,none⟩ v1).setCell ⟨M,2,none⟩ v2).setCell ⟨M,3,none⟩ v3).setCell ⟨M,4,none⟩ v4).setCell ⟨M,5,none⟩ v5).setCell ⟨M,6,none⟩ v6).heap[k]? = some o:=by
 rw [Below.heap_setCell _ _ _ _ hk,Below.heap_setCell _ _ _ _ hk,Below.heap_setCell _ _ _ _ hk,Below.heap_setCell _ _ _ _ hk,Below.heap_setCell _ _ _ _ hk,Below.heap_setCell _ _ _ _ hk,Below.heap_setCell _ _ _ _ hk]
 exact h
theorem put7_below {B:Nat} {a w:World} {M:Nat} (h:Below B a w) (hM:B <= M) (v0 v1 v2 v3 v4 v5 v6:Value):Below B a (((((((w.setCell ⟨M,0,none⟩ v0).setCell ⟨M,1,none⟩ v1).setCell ⟨M,2,none⟩ v2).setCell ⟨M,3,none⟩ v3).setCell ⟨M,4,none⟩ v4).setCell ⟨M,5,none⟩ v5).setCell ⟨M,6,none⟩ v6) :=
 ((((((h.setCell (p:=⟨M,0,none⟩) hM _).setCell (p:=⟨M,1,none⟩) hM _).setCell (p:=⟨M,2,none⟩) hM _).setCell (p:=⟨M,3,none⟩) hM _).setCell (p:=⟨M,4,none⟩) hM _).setCell (p:=⟨M,5,none⟩) hM _).setCell (p:=⟨M,6,none⟩) hM _
theorem set3_same {cs:Array Value} {q:Nat} (hz:q * 3 + 2 < cs.size) (a b c:Value):(((cs.setIfInBounds (q * 3) a).setIfInBounds (q * 3 + 1) b).setIfInBounds (q * 3 + 2) c)[q * 3]? = some a /\ (((cs.setIfInBounds (q * 3) a).setIfInBounds (q * 3 + 1) b).setIfInBounds (q * 3 + 2) c)[q * 3 + 1]? = some b /\ (((cs.setIfInBounds (q * 3) a).setIfInBounds (q * 3 + 1) b).setIfInBounds (q * 3 + 2) c)[q * 3 + 2]? = some c:=by
 refine ⟨?_,?_,?_⟩ <;> simp [Array.getElem?_setIfInBounds] <;> omega
theorem set3_other {cs:Array Value} {q k:Nat} (h0:k ≠ q * 3) (h1:k ≠ q * 3 + 1) (h2:k ≠ q * 3 + 2) (a b c:Value):(((cs.setIfInBounds (q * 3) a).setIfInBounds (q * 3 + 1) b).setIfInBounds (q * 3 + 2) c)[k]? = cs[k]?:=by
 rw [Array.getElem?_setIfInBounds_ne (by omega),Array.getElem?_setIfInBounds_ne (by omega),Array.getElem?_setIfInBounds_ne (by omega)]
structure NtX (b0:Nat) (kind n nk:Nat) (ss:List ByteArray) (rel fs:List Nat) (v:Array Value) (W:World):Prop where
 ex:∃ g6 c6 gF cs6 csF,v = #[.int .u8 (kind:Int),.int .i64 (n:Int),.slice (some ⟨g6,0,none⟩) n c6,.int .i64 0,.slice (some ⟨gF,0,none⟩) nk nk,.slice none 0 0,.slice none 0 0] /\ b0 <= g6 /\ b0 <= gF /\
  W.heap[g6]? = some (.cells cs6 3 (0,0)) /\ (∀ (i:Nat) (x:Nat),rel[i]? = some x -> cs6[i]? = some (.int .i64 (x:Int))) /\
  W.heap[gF]? = some (.cells csF 46 (0,0)) /\ ∀ (t:Nat) (s:ByteArray) (d:Nat),ss[t]? = some s -> fs[t]? = some d -> csF[t * 3]? = some (.string s) /\ csF[t * 3 + 1]? = some (.int .i64 0) /\ csF[t * 3 + 2]? = some (.int .i64 (d:Int))
theorem NtX.same {b0 kind n nk:Nat} {ss:List ByteArray} {rel fs:List Nat} {v:Array Value} {A C:World} (h:NtX b0 kind n nk ss rel fs v A) (hs:∀ k cs t,b0 <= k -> A.heap[k]? = some (.cells cs t (0,0)) -> C.heap[k]? = some (.cells cs t (0,0))):NtX b0 kind n nk ss rel fs v C:=by
 obtain ⟨g6,c6,gF,cs6,csF,h1,h2,h3,h4,h5,h6,h7⟩:=h.ex
 exact ⟨g6,c6,gF,cs6,csF,h1,h2,h3,hs _ _ _ h2 h4,h5,hs _ _ _ h3 h6,h7⟩
def NtR (wb:World) (b:Nat) (force:Bool) (kind n nk i:Nat) (ss:List ByteArray) (c:Code) (pre:List (List Nat)) (W:World):Prop :=
 c = .ret /\ ∃ p x v,pre = p ++ [x] /\ sumK force n nk p <= i /\ i - sumK force n nk p < waysR force n nk x /\
  W.heap[wb.heap.size + 4]? = some (.cells v 30 (0,0)) /\ W.heap[wb.heap.size + 5]? = some (.cells #[.int .i64 0] 38 (0,0)) /\ Below wb.heap.size wb W /\ wb.heap.size + 6 <= W.heap.size /\ NtX (b + 1) kind n nk ss x (digs (truthsK force x (2 ^ n)) nk (i - sumK force n nk p)) v W
theorem NtR.turn {wb:World} {b B:Nat} {force:Bool} {kind n nk i:Nat} {ss:List ByteArray} {c:Code} {pre:List (List Nat)} {A C:World} (h:NtR wb b force kind n nk i ss c pre A) (hB:wb.heap.size + 6 <= B) (hb:b = B + 6) (ht:Turn b (B + 3) A C):NtR wb b force kind n nk i ss c pre C:=by
 obtain ⟨h1,p,x,v,h2,h3,h4,h5,h6,h7,h8,h9⟩:=h
 refine ⟨h1,p,x,v,h2,h3,h4,ht.same _ _ h5 (by omega) (.inr rfl),ht.same _ _ h6 (by omega) (.inr rfl),below_same h7 ht.os ht.tape ht.output ht.size (fun k hk => ?_),Nat.le_trans h8 ht.size,h9.same fun k cs t hk hc => ht.same _ _ hc (by omega) (.inr rfl)⟩
 have hlt:k < A.heap.size:=Nat.lt_of_lt_of_le hk h7.size
 rw [ht.same k A.heap[k] (Array.getElem?_eq_getElem hlt) (by omega) (.inl (by omega)),<- Array.getElem?_eq_getElem hlt]
def RetNt (wb:World) (force:Bool) (kind mask n nk i:Nat) (ss:List ByteArray) (e:Ending) (w':World):Prop :=
 Below wb.heap.size wb w' /\ ((pick (waysR force n nk) (relsL force mask n) i = none /\ e = .returned (.tuple #[.agg #[.int .u8 0,.int .i64 0,.slice none 0 0,.int .i64 0,.slice none 0 0,.slice none 0 0,.slice none 0 0],.int .i64 6])) ∨
  ∃ rel j v,pick (waysR force n nk) (relsL force mask n) i = some (rel,j) /\ e = .returned (.tuple #[.agg v,.int .i64 0]) /\ NtX wb.heap.size kind n nk ss rel (digs (truthsK force rel (2 ^ n)) nk j) v w')
def NtI (wb:World) (force:Bool) (kind n:Nat) (na:Option Addr) (nk nc i:Nat) (pre:List (List Nat)) (W:World):Prop:=sumK force n nk pre <= i /\ NtB wb kind n na nk nc (i - sumK force n nk pre) W
def NtSafe (wb:World) (W:World) (k:Nat):Prop:=k < W.heap.size /\ wb.heap.size + 6 <= k
theorem pick_at {W:List Nat -> Nat} {p:List (List Nat)} {x:List Nat} {r:List (List Nat)} {i:Nat} (h1:sumW W p <= i) (h2:i - sumW W p < W x):pick W (p ++ x :: r) i = some (x,i - sumW W p):=by
 rw [pick_on h1]
 unfold pick
 rw [if_neg (by omega)]
set_option maxRecDepth 100000 in
set_option maxHeartbeats 8000000 in
theorem nth_aux (k:Nat) (hk4:4 <= k) (wb:World) (kind n mask i nk nc cN:Nat) (na:Option Addr) (ss:List ByteArray) 
  (hkd:kind < 256) (hmask:mask < 256) (h1:1 <= n) (h4:n <= 4) (hi:i <= 9223372036854775807) (hk9:nk <= 1000000) (hnk:ss.length = nk)
  (hS:∀ t s,ss[t]? = some s -> s.size <= maxLen /\ ∃ g o,na = some ⟨g,o,none⟩ /\ g < wb.heap.size /\ wb.cell? ⟨g,o + t,none⟩ = some (.string s))
  (hC:∀ W,Below wb.heap.size wb W -> Calls Tryd.prog 32 #[.int .u8 (kind:Int),.int .u8 (mask:Int),.slice na nk nc,.int .i64 (n:Int)] W (fun e w' => Below W.heap.size W w' /\ e = .returned (.tuple #[.int .i64 (cN:Int),.int .i64 0])))
  (hct:countS (decide (kind = 3)) mask nk n <= 16384) :
  CallsIn Fence.wide k Tryd.prog 33 #[.int .u8 (kind:Int),.int .u8 (mask:Int),.slice na nk nc,.int .i64 (n:Int),.int .i64 (i:Int)] wb (RetNt wb (decide (kind = 3)) kind mask n nk i ss):=by
 have HC:=hid hC
 have HRL:=hid fun W => relations_call W kind mask n
 have HSS:=hid hS
 have HNK:=hid hnk
 have HKD:=hid hkd
 have hsum:sumK (decide (kind = 3)) n nk (relsL (decide (kind = 3)) mask n) <= 16384:=by unfold countS at hct; omega
 have HSUM:=hid hsum
 clear hC hS hnk hct hsum
 refine callsIn_of_wp_marks Tryd.func33 rfl trivial ?_ rfl
 simp only [Tryd.ntmps33,List.size_toArray,List.length_cons,List.length_nil,Nat.reduceAdd,Nat.reduceSub,Array.replicate_succ,Array.replicate_zero,List.push_toArray,List.append_toArray,List.nil_append,List.cons_append]
 gi_upto_region 1 with (fail)
 obtain ⟨A0,hA0⟩:∃ A,A = ((((((wb.alloc (.cells #[.int .u8 (kind:Int)] 5)).alloc (.cells #[.slice na nk nc] 63)).alloc (.cells #[.int .i64 (n:Int)] 3)).alloc (.cells #[.int .i64 (i:Int)] 3)).alloc (.cells #[.int .u8 0,.int .i64 0,.slice none 0 0,.int .i64 0,.slice none 0 0,.slice none 0 0,.slice none 0 0] 30)).alloc (.cells #[.int .i64 0] 38)):=⟨_,rfl⟩
 have hb0:Below wb.heap.size wb A0:=by
  rw [hA0]; exact (((((((Below.refl _ wb).alloc (Nat.le_refl _) _).alloc (by simp) _).alloc (by simp; omega) _).alloc (by simp; omega) _).alloc (by simp; omega) _).alloc (by simp; omega) _)
 have hz0:A0.heap.size = wb.heap.size + 6:=by rw [hA0]; simp
 have hN0:NtB wb kind n na nk nc i A0:=by
  refine ⟨?_,?_,?_,?_,?_,?_,hb0,by omega⟩
  ·rw [hA0]; iterate 5 (refine HK.blk_alloc ?_ _)
   exact HK.blk_new _ _
  ·rw [hA0]; iterate 4 (refine HK.blk_alloc ?_ _)
   have:=HK.blk_new (wb.alloc (.cells #[.int .u8 (kind:Int)] 5)) (.cells #[.slice na nk nc] 63)
   simpa using this
  ·rw [hA0]; iterate 3 (refine HK.blk_alloc ?_ _)
   have:=HK.blk_new ((wb.alloc (.cells #[.int .u8 (kind:Int)] 5)).alloc (.cells #[.slice na nk nc] 63)) (.cells #[.int .i64 (n:Int)] 3)
   simpa using this
  ·rw [hA0]; iterate 2 (refine HK.blk_alloc ?_ _)
   have:=HK.blk_new (((wb.alloc (.cells #[.int .u8 (kind:Int)] 5)).alloc (.cells #[.slice na nk nc] 63)).alloc (.cells #[.int .i64 (n:Int)] 3)) (.cells #[.int .i64 (i:Int)] 3)
   simpa using this
  ·rw [hA0]; refine HK.blk_alloc ?_ _
   have:=HK.blk_new ((((wb.alloc (.cells #[.int .u8 (kind:Int)] 5)).alloc (.cells #[.slice na nk nc] 63)).alloc (.cells #[.int .i64 (n:Int)] 3)).alloc (.cells #[.int .i64 (i:Int)] 3)) (.cells #[.int .u8 0,.int .i64 0,.slice none 0 0,.int .i64 0,.slice none 0 0,.slice none 0 0,.slice none 0 0] 30)
   simpa using this
  ·rw [hA0]
   have:=HK.blk_new (((((wb.alloc (.cells #[.int .u8 (kind:Int)] 5)).alloc (.cells #[.slice na nk nc] 63)).alloc (.cells #[.int .i64 (n:Int)] 3)).alloc (.cells #[.int .i64 (i:Int)] 3)).alloc (.cells #[.int .u8 0,.int .i64 0,.slice none 0 0,.int .i64 0,.slice none 0 0,.slice none 0 0,.slice none 0 0] 30)) (.cells #[.int .i64 0] 38)
   simpa using this
 rw [<- hA0]
 simp only [Nat.add_assoc,Nat.reduceAdd]
 have HB0:=hid hb0
 have HN0:=hid hN0
 have HZ0:=hid hz0
 clear hA0 hb0 hN0 hz0
 have c5:=HK.blk_cell HN0.out.hk 0
 have c7:=HK.blk_cell HN0.out.hn 0
 have c8:=HK.blk_cell HN0.out.hs 0
 gi_upto_region 2 with (gi_at_call 32; refine (callsIn_wide.2 (HC.out _ HB0.out)).mono ?_; rintro e w1 ⟨hB1,rfl⟩; have HB1:=hid hB1; clear hB1)
 have HN1:=hid (HN0.out.below HB1.out)
 clear c5 c7 c8
 have c9:=HK.blk_cell HN1.out.hi 0
 have c5:=HK.blk_cell HN1.out.hk 0
 have c8:=HK.blk_cell HN1.out.hs 0
 have hi0:¬ (i:Int) < 0:=by omega
 gi_wp2_with (gi_at_call 58; refine (callsIn_wide.2 (HRL.out _)).mono ?_; rintro e w' ⟨rfl,hw⟩; cases hw)
 clear c5 c8 c9 hi0
 obtain ⟨B,hBB⟩:∃ B,B = w1.heap.size:=⟨_,rfl⟩
 obtain ⟨w0,hw0⟩:∃ w0,w0 = (((w1.alloc (.cells #[.int .u8 (kind:Int)] 5)).alloc (.cells #[.int .u8 (mask:Int)] 5)).alloc (.cells #[.int .i64 (n:Int)] 3)):=⟨_,rfl⟩
 have hz0:w0.heap.size = B + 3:=by rw [hw0,hBB]; simp
 have hBw:wb.heap.size + 6 <= B:=by rw [hBB]; exact HN1.out.hz
 have hup:Below w1.heap.size w1 w0:=by rw [hw0]; exact ((((Below.refl _ w1).alloc (Nat.le_refl _) _).alloc (by simp) _).alloc (by simp; omega) _)
 have vk:w0.heap[B]? = some (.cells #[.int .u8 (kind:Int)] 5 (0,0)):=by
  rw [hw0,hBB]; iterate 2 (refine HK.blk_alloc ?_ _)
  exact HK.blk_new _ _
 have vm:w0.heap[B + 1]? = some (.cells #[.int .u8 (mask:Int)] 5 (0,0)):=by
  rw [hw0,hBB]; refine HK.blk_alloc ?_ _
  have:=HK.blk_new (w1.alloc (.cells #[.int .u8 (kind:Int)] 5)) (.cells #[.int .u8 (mask:Int)] 5)
  simpa using this
 have vn:w0.heap[B + 2]? = some (.cells #[.int .i64 (n:Int)] 3 (0,0)):=by
  rw [hw0,hBB]
  have:=HK.blk_new ((w1.alloc (.cells #[.int .u8 (kind:Int)] 5)).alloc (.cells #[.int .u8 (mask:Int)] 5)) (.cells #[.int .i64 (n:Int)] 3)
  simpa using this
 have hI0:NtI wb (decide (kind = 3)) kind n na nk nc i [] w0:=⟨by simp [sumK],by simpa [sumK] using HN1.out.below hup⟩
 obtain ⟨b,hb⟩:∃ b,b = w0.heap.size + 3:=⟨_,rfl⟩
 have hb6:b = B + 6:=by omega
 have hseq:=relations_seq (k - 1) w0 (B + 2) B (B + 1) n kind mask hmask h4 vn vk vm
 rw [<- hb] at hseq
 rw [<- hw0]
 rw [<- hBB]
 clear vk vm vn hup HC HRL HB0 HN0 HZ0 HB1 HN1 hw0 hBB
 refine range_b (n:=k) rfl (by omega) (gf:=73) (lb:=#[.pointer (some ⟨B + 2,0,none⟩),.pointer (some ⟨B,0,none⟩),.pointer (some ⟨B + 1,0,none⟩)]) rfl trivial (enters_of Tryd.func73 (by kernel_rfl) rfl)
  hb hseq (fun _ => rfl)
  (NtI wb (decide (kind = 3)) kind n na nk nc i) (NtR wb b (decide (kind = 3)) kind n nk i ss)
  (fun s A C h ht => by rw [hz0] at ht; exact ⟨h.1,h.2.turn hBw hb6 ht⟩) (fun c s A C h ht => by rw [hz0] at ht; exact h.turn hBw hb6 ht) hI0
  (NtSafe wb) (fun j hj => ⟨by rcases hj with h | h | h <;> omega,by rcases hj with h | h | h <;> omega⟩)
  (fun _ _ _ _ h => h.1) (fun _ A C j _ ht h => ⟨Nat.lt_of_lt_of_le h.1 ht.size,h.2⟩) (fun _ A C j hi _ h1 h2 => by have:=hi.2.hz; exact ⟨h2,by omega⟩)
  (fun x a' W => x.length = n /\ FrOk x /\ RowB b W x /\ a' = { tmps:=#[.int .u8 (kind:Int),.int .u8 (mask:Int),.slice na nk nc,.int .i64 (n:Int),.int .i64 (i:Int),.pointer (some ⟨wb.heap.size,0,none⟩),undef,.pointer (some ⟨wb.heap.size + 1,0,none⟩),.pointer (some ⟨wb.heap.size + 2,0,none⟩),.pointer (some ⟨wb.heap.size + 3,0,none⟩),.pointer (some ⟨wb.heap.size + 4,0,none⟩),.pointer (some ⟨wb.heap.size + 5,0,none⟩),.int .i64 (cN:Int),.int .i64 0,.slice (some ⟨b,0,none⟩) n n,undef,undef,undef,undef,.tuple #[.int .i64 (cN:Int),.int .i64 0],.int .u8 (kind:Int),.int .u8 (mask:Int),.slice na nk nc,.int .i64 (n:Int),.tuple #[.int .i64 (cN:Int),.int .i64 0],.int .i64 (cN:Int),.int .i64 0,.int .i64 0,.bool false,undef,undef,.int .i64 (i:Int),.bool false,undef,.int .u8 (kind:Int),.int .u8 (mask:Int),.int .i64 (n:Int),.func (.func 73) #[] #[.pointer (some ⟨B + 2,0,none⟩),.pointer (some ⟨B,0,none⟩),.pointer (some ⟨B + 1,0,none⟩)],.slice (some ⟨b,0,none⟩) n n,undef,undef,undef,undef,undef,undef,undef,undef,undef,undef,undef,undef,undef,undef,undef,undef,undef,undef,undef,undef,undef,undef,undef,undef,undef,undef,undef,undef,undef,undef,undef,undef,undef,undef,undef,undef,undef,undef,undef,undef,undef,undef,undef,undef,undef,undef,undef,undef,undef,undef,undef],defers:=[] }) (fun x a' A C h ht => ⟨h.1,h.2.1,ht.same _ _ h.2.2.1 (.inr rfl),h.2.2.2⟩) ?assign ?body ?done ?stop
 case assign =>
  intro l pre x W R hI hT hR
  have HT:=hid hT
  have HI:=hid hI
  clear hT hI hI0 hseq hb hb6
  unfold encR
  gi_wp2
  exact hR _ _ (KeepsFrom.refl _ _) ⟨Nat.le_refl _,fun k hk _ => ⟨hk,rfl⟩⟩ HI.out ⟨HT.out.1,HT.out.2.1,HT.out.2.2,rfl⟩
 case body =>
  intro l pre xr a' ws hI hax hpl
  obtain ⟨hlen,hxok,hrow,rfl⟩:=hax
  obtain ⟨hSi,hI⟩:=hI
  obtain ⟨S,hS⟩:∃ S,S = sumK (decide (kind = 3)) n nk pre:=⟨_,rfl⟩
  rw [<- hS] at hSi hI
  obtain ⟨j,hj⟩:∃ j,j = i - S:=⟨_,rfl⟩
  rw [<- hj] at hI
  have hj9:j <= 9223372036854775807:=by omega
  obtain ⟨L5,hL5⟩:∃ L,L = truthsK (decide (kind = 3)) xr (2 ^ n):=⟨_,rfl⟩
  obtain ⟨T,hT⟩:∃ T,T = L5.length:=⟨_,rfl⟩
  have hT1:1 <= T:=by rw [hT,hL5]; exact truths_pos _ _ _
  have hT16:T <= 16:=by rw [hT,hL5]; exact Nat.le_trans (truthsK_len _ _ _) (pow_le4 h4)
  have hxr:IsR ws b 0 xr:=RowB.isR hrow
  have HTR:Hid (Calls Tryd.prog 59 #[.int .u8 (kind:Int),.slice (some ⟨b,0,none⟩) n n] ws (RetRow ws L5)):=hid (by rw [hL5]; exact truths_call ws b 0 n n xr hxr hlen hxok kind HKD.out)
  obtain ⟨p,hp⟩:∃ p,p = powC T nk:=⟨_,rfl⟩
  have hp2:p <= 16385:=by rw [hp]; exact powC_le _ _
  have HPW:Hid (∀ W,Calls Tryd.prog 60 #[.int .i64 (T:Int),.int .i64 (nk:Int)] W fun e w' => e = .returned (.int .i64 (p:Int)) /\ w' = W):=hid fun W => by rw [hp]; exact power_call W T nk hT1 hT16 (by omega)
  have HWY:Hid (waysR (decide (kind = 3)) n nk xr = p):=hid (by rw [hp,hT,hL5]; rfl)
  have HN:=hid hI
  have HS:=hid hS
  have HSI:=hid hSi
  have HJ:=hid hj
  have HL5:=hid hL5
  have HT:=hid hT
  have HP:=hid hp
  have HROW:=hid hrow
  have HW0:=hid hz0
  have HB6:Hid (b = B + 6 /\ wb.heap.size + 6 <= B):=hid ⟨hb6,hBw⟩
  have HLEN:=hid hlen
  have HXOK:=hid hxok
  have HI9:=hid hi
  have HK9:=hid hk9
  have HWS:Hid (wb.heap.size + 6 <= ws.heap.size):=hid hI.hz
  clear hI hS hSi hj hL5 hT hp hxr hrow hlen hxok hz0 hb hb6 hI0 hseq hpl hi hk9 hBw
  have c5:=HK.blk_cell HN.out.hk 0
  gi_upto_region 9 with (gi_at_call 59; refine (callsIn_wide.2 HTR.out).mono ?_; rintro e w5 ⟨v5,rfl,hB5,hv5⟩; rcases hv5.2 with ⟨h0,h9⟩ | ⟨g5,tc,cu,rfl,hrst⟩; (exact absurd h9 (by have:=HT.out; omega)); rw [<- HT.out] at hv5 ⊢; have HB5:=hid hB5; have HI5:=hid (isR_own hv5); have HG5L:=hid hrst.1; clear hB5 hv5 hrst)
  have HN5:=hid (HN.out.below HB5.out)
  clear c5 HN
  have c7:=HK.blk_cell HN5.out.hn 0
  have c9:=HK.blk_cell HN5.out.hi 0
  have f9:=HK.blk_frozen HN5.out.hi 0
  by_cases hpj:p <= j
  ·obtain ⟨q,hq⟩:∃ q,q = j - p:=⟨_,rfl⟩
   have hq6:IntKind.i64.wrap ((j:Int) - (p:Int)) = (q:Int):=by rw [show (j:Int) - (p:Int) = (q:Int) by omega]; exact IntWalk.i64_in _ (by omega)
   have hq7:wrap64 ((j:Int) - (p:Int)) = (q:Int):=(IntWalk.i64_left _).symm.trans hq6
   have hge:(p:Int) <= (j:Int):=by omega
   have HQ:Hid (q = i - sumK (decide (kind = 3)) n nk (pre ++ [xr]) /\ sumK (decide (kind = 3)) n nk (pre ++ [xr]) <= i):=hid (by
    have q1:=HJ.out
    have q2:=HSI.out
    rw [sumK_on,<- HS.out,HWY.out]
    omega)
   clear hq hpj
   gi_wp2_with (gi_at_call 60; refine (callsIn_wide.2 (HPW.out _)).mono ?_; rintro e w' ⟨rfl,hw⟩; cases hw)
   have hset:=HK.blk_set HN5.out.hi 0 (.int .i64 (q:Int))
   have hsm:∀ kk,kk ≠ wb.heap.size + 3 -> (w5.setCell ⟨wb.heap.size + 3,0,none⟩ (.int .i64 (q:Int))).heap[kk]? = w5.heap[kk]?:=fun kk hne => Below.heap_setCell _ _ _ _ hne
   have hsz:ws.heap.size <= (w5.setCell ⟨wb.heap.size + 3,0,none⟩ (.int .i64 (q:Int))).heap.size:=by have:=HB5.out.size; simp; omega
   have hw6:=HB6.out.2
   have hw0:=HW0.out
   refine ⟨⟨hsz,fun kk ob hk ho _ => (hsm kk (by omega)).trans ((HB5.out.block kk (HK.blk_lt ho)).trans ho)⟩,⟨hsz,fun kk hk _ => ⟨⟨Nat.lt_of_lt_of_le hk.1 hsz,hk.2⟩,(hsm kk (by have:=hk.2; omega)).trans (HB5.out.block kk hk.1)⟩⟩,HQ.out.2,?_⟩
   rw [<- HQ.out.1]
   refine ⟨(hsm _ (by omega)).trans HN5.out.hk,(hsm _ (by omega)).trans HN5.out.hn,(hsm _ (by omega)).trans HN5.out.hs,by simpa using hset,(hsm _ (by omega)).trans HN5.out.hr,(hsm _ (by omega)).trans HN5.out.he,HN5.out.hB.setCell (p:=⟨wb.heap.size + 3,0,none⟩) (by simp) _,?_⟩
   have:=HN5.out.hz
   simp; omega
  ·have hge:¬ (p:Int) <= (j:Int):=by omega
   gi_upto_region 12 with (gi_at_call 60; refine (callsIn_wide.2 (HPW.out _)).mono ?_; rintro e w' ⟨rfl,hw⟩; cases hw)
   have HX5:Hid (IsR w5 b 0 xr):=hid ((RowB.isR HROW.out).below HB5.out)
   clear c7 c9 f9
   gi_cut [17] from 53 (fun v wx => ∃ M g6 c6 gF cs6,v = .pointer (some ⟨M,0,none⟩) /\ w5.heap.size <= M /\ w5.heap.size <= g6 /\ w5.heap.size <= gF /\ wx.heap[M]? = some (.cells #[.int .u8 (kind:Int),.int .i64 (n:Int),.slice (some ⟨g6,0,none⟩) n c6,.int .i64 0,.slice (some ⟨gF,0,none⟩) nk nk,.slice none 0 0,.slice none 0 0] 30 (0,0)) /\ wx.heap[g6]? = some (.cells cs6 3 (0,0)) /\ (∀ (i x:Nat),xr[i]? = some x -> cs6[i]? = some (.int .i64 (x:Int))) /\ wx.heap[gF]? = some (.cells (madeCells #[.string ⟨#[]⟩,.int .i64 0,.int .i64 0] (nk * 3)) 46 (0,0)) /\ Below w5.heap.size w5 wx)
   case first =>
    refine Go.RE.wpIn_region_each [53,54,55,56,57,58,59,60,17] (fun L x W => (Below w5.heap.size w5 W) /\ (L 0 = true -> x 53 = .int .u8 (kind:Int)) /\ (L 1 = true -> x 54 = .int .i64 (n:Int)) /\ (L 2 = true -> x 55 = .slice (some ⟨b,0,none⟩) n n) /\ (L 3 = true -> ∃ g6 c6 cs,x 56 = .slice (some ⟨g6,0,none⟩) n c6 /\ w5.heap.size <= g6 /\ W.heap[g6]? = some (.cells cs 3 (0,0)) /\ ∀ (i x:Nat),xr[i]? = some x -> cs[i]? = some (.int .i64 (x:Int))) /\ (L 4 = true -> x 57 = .slice na nk nc) /\ (L 5 = true -> x 58 = .int .i64 (nk:Int)) /\ (L 6 = true -> ∃ gF,x 59 = .slice (some ⟨gF,0,none⟩) nk nk /\ w5.heap.size <= gF /\ W.heap[gF]? = some (.cells (madeCells #[.string ⟨#[]⟩,.int .i64 0,.int .i64 0] (nk * 3)) 46 (0,0))) /\ (L 7 = true -> L 3 = true /\ L 6 = true /\ ∃ g6 c6 gF,x 56 = .slice (some ⟨g6,0,none⟩) n c6 /\ x 59 = .slice (some ⟨gF,0,none⟩) nk nk /\ x 60 = .agg #[.int .u8 (kind:Int),.int .i64 (n:Int),.slice (some ⟨g6,0,none⟩) n c6,.int .i64 0,.slice (some ⟨gF,0,none⟩) nk nk,.slice none 0 0,.slice none 0 0]) /\ (L 8 = true -> ∃ M,x 17 = .pointer (some ⟨M,0,none⟩) /\ w5.heap.size <= M /\ (L 9 = false -> W.heap[M]? = some (.cells #[.int .u8 0,.int .i64 0,.slice none 0 0,.int .i64 0,.slice none 0 0,.slice none 0 0,.slice none 0 0] 30 (0,0)))) /\ (L 9 = true -> L 7 = true /\ L 8 = true /\ ∃ M g6 c6 gF,x 17 = .pointer (some ⟨M,0,none⟩) /\ w5.heap.size <= M /\ x 56 = .slice (some ⟨g6,0,none⟩) n c6 /\ x 59 = .slice (some ⟨gF,0,none⟩) nk nk /\ W.heap[M]? = some (.cells #[.int .u8 (kind:Int),.int .i64 (n:Int),.slice (some ⟨g6,0,none⟩) n c6,.int .i64 0,.slice (some ⟨gF,0,none⟩) nk nk,.slice none 0 0,.slice none 0 0] 30 (0,0)))) (by kernel_rfl) (by kernel_rfl) ?_ (by kernel_rfl) (by kernel_rfl) ?_ ((Go.RE.Each.cons ?_ (Go.RE.Each.cons ?_ (Go.RE.Each.cons ?_ (Go.RE.Each.cons ?_ (Go.RE.Each.cons ?_ (Go.RE.Each.cons ?_ (Go.RE.Each.cons ?_ (Go.RE.Each.cons ?_ (Go.RE.Each.cons ?_ (Go.RE.Each.cons ?_ Go.RE.Each.nil))))))))))) ?_
    ·rintro ⟨a,w,h⟩; exact h
    ·exact fun x => ⟨bl_dr (Below.refl _ _),nofun,nofun,nofun,nofun,nofun,nofun,nofun,nofun,nofun,nofun⟩
    ·intro L x a wR K hL hd hf hx hΦ hK
     obtain ⟨hI,f0,f1,f2,f3,f4,f5,f6,f7,f8,f9⟩:=hΦ
     have e5:a.tmps[5]? = some (.pointer (some ⟨wb.heap.size,0,none⟩)):=hf 5 (of_decide_eq_true (by kernel_rfl))
     have c:=HK.blk_cell ((HN5.out.below hI).hk) 0
     clear hf hx hd
     go_simp
     refine hK _ _ ?_
     exact ⟨hI,fun _ => rfl,f1,f2,f3,f4,f5,f6,f7,f8,f9⟩
    ·intro L x a wR K hL hd hf hx hΦ hK
     obtain ⟨hI,f0,f1,f2,f3,f4,f5,f6,f7,f8,f9⟩:=hΦ
     have e8:a.tmps[8]? = some (.pointer (some ⟨wb.heap.size + 2,0,none⟩)):=hf 8 (of_decide_eq_true (by kernel_rfl))
     have c:=HK.blk_cell ((HN5.out.below hI).hs) 0
     clear hf hx hd
     go_simp
     refine hK _ _ ?_
     exact ⟨hI,f0,fun _ => rfl,f2,f3,f4,f5,f6,f7,f8,f9⟩
    ·intro L x a wR K hL hd hf hx hΦ hK
     obtain ⟨hI,f0,f1,f2,f3,f4,f5,f6,f7,f8,f9⟩:=hΦ
     have e14:a.tmps[14]? = some (.slice (some ⟨b,0,none⟩) n n):=hf 14 (of_decide_eq_true (by kernel_rfl))
     clear hf hx hd
     go_simp
     refine hK _ _ ?_
     exact ⟨hI,f0,f1,fun _ => rfl,f3,f4,f5,f6,f7,f8,f9⟩
    ·intro L x a wR K hL hd hf hx hΦ hK
     obtain ⟨hI,f0,f1,f2,f3,f4,f5,f6,f7,f8,f9⟩:=hΦ
     have d2:=f2 (hd 2 (by kernel_rfl))
     have e55:a.tmps[55]? = some (x 55):=hx 2 _ 55 rfl rfl (hd 2 (by kernel_rfl))
     rw [d2] at e55
     clear hf hx hd
     go_simp
     go_at_call 46
     with_reducible refine (clone_call _ b 0 n n xr (HX5.out.below hI) HLEN.out (by omega)).mono ?_
     rintro e w' ⟨v8,rfl,hB8,hown⟩
     rcases id hown.2 with ⟨h0,h9⟩ | ⟨g8,c8,cu,rfl,hg8,hc8,_⟩
     ·exact absurd h9 (by have:=HLEN.out; omega)
     have hcu:∀ (i x:Nat),xr[i]? = some x -> cu[i]? = some (.int .i64 (x:Int)):=fun i x hx => by
      have h:=isR_own (by rw [HLEN.out] at hown; exact hown) i x hx
      rwa [Nat.zero_add,HK.blk_cell hc8] at h
     simp only
     refine hK _ _ ?_
     exact ⟨hI.trans (hB8.mono hI.size),f0,f1,f2,fun _ => ⟨g8,c8,cu,(by rw [HLEN.out]; rfl),Nat.le_trans hI.size hg8,hc8,hcu⟩,f4,f5,fun h => match (f6 h) with | ⟨gF,a1,a2,a3⟩ => ⟨gF,a1,a2,(hB8.block _ (HK.blk_lt a3)).trans a3⟩,fun h => by have hh:=f7 h; simp [hL] at hh,fun h => match (f8 h) with | ⟨M,a1,a2,a3⟩ => ⟨M,a1,a2,fun q => (hB8.block _ (HK.blk_lt (a3 q))).trans (a3 q)⟩,fun h => absurd (f7 (f9 h).1).1 (by rw [hL]; decide)⟩
    ·intro L x a wR K hL hd hf hx hΦ hK
     obtain ⟨hI,f0,f1,f2,f3,f4,f5,f6,f7,f8,f9⟩:=hΦ
     have e7:a.tmps[7]? = some (.pointer (some ⟨wb.heap.size + 1,0,none⟩)):=hf 7 (of_decide_eq_true (by kernel_rfl))
     have c:=HK.blk_cell ((HN5.out.below hI).hn) 0
     clear hf hx hd
     go_simp
     refine hK _ _ ?_
     exact ⟨hI,f0,f1,f2,f3,fun _ => rfl,f5,f6,f7,f8,f9⟩
    ·intro L x a wR K hL hd hf hx hΦ hK
     obtain ⟨hI,f0,f1,f2,f3,f4,f5,f6,f7,f8,f9⟩:=hΦ
     have d4:=f4 (hd 4 (by kernel_rfl))
     have e57:a.tmps[57]? = some (x 57):=hx 4 _ 57 rfl rfl (hd 4 (by kernel_rfl))
     rw [d4] at e57
     clear hf hx hd
     go_simp
     refine hK _ _ ?_
     exact ⟨hI,f0,f1,f2,f3,f4,fun _ => rfl,f6,f7,f8,f9⟩
    ·intro L x a wR K hL hd hf hx hΦ hK
     obtain ⟨hI,f0,f1,f2,f3,f4,f5,f6,f7,f8,f9⟩:=hΦ
     have d5:=f5 (hd 5 (by kernel_rfl))
     have e58:a.tmps[58]? = some (x 58):=hx 5 _ 58 rfl rfl (hd 5 (by kernel_rfl))
     rw [d5] at e58
     clear hf hx hd
     have mk:=make_facts wR nk HK9.out
     go_simp
     refine hK _ _ ?_
     exact ⟨hI.alloc hI.size _,f0,f1,f2,fun h => match (f3 h) with | ⟨g6,c6,cs,a1,a2,a3,a4⟩ => ⟨g6,c6,cs,a1,a2,HK.blk_alloc a3 _,a4⟩,f4,f5,fun _ => ⟨wR.heap.size,rfl,hI.size,HK.blk_new _ _⟩,fun h => by have hh:=f7 h; simp [hL] at hh,fun h => match (f8 h) with | ⟨M,a1,a2,a3⟩ => ⟨M,a1,a2,fun q => HK.blk_alloc (a3 q) _⟩,fun h => absurd (f7 (f9 h).1).2.1 (by rw [hL]; decide)⟩
    ·intro L x a wR K hL hd hf hx hΦ hK
     obtain ⟨hI,f0,f1,f2,f3,f4,f5,f6,f7,f8,f9⟩:=hΦ
     have d0:=f0 (hd 0 (by kernel_rfl))
     have e53:a.tmps[53]? = some (x 53):=hx 0 _ 53 rfl rfl (hd 0 (by kernel_rfl))
     rw [d0] at e53
     have d1:=f1 (hd 1 (by kernel_rfl))
     have e54:a.tmps[54]? = some (x 54):=hx 1 _ 54 rfl rfl (hd 1 (by kernel_rfl))
     rw [d1] at e54
     have d3:=f3 (hd 3 (by kernel_rfl))
     have e56:a.tmps[56]? = some (x 56):=hx 3 _ 56 rfl rfl (hd 3 (by kernel_rfl))
     have d6:=f6 (hd 6 (by kernel_rfl))
     have e59:a.tmps[59]? = some (x 59):=hx 6 _ 59 rfl rfl (hd 6 (by kernel_rfl))
     have l3:=hd 3 (by kernel_rfl)
     have l6:=hd 6 (by kernel_rfl)
     clear hf hx hd
     obtain ⟨g6,c6,cs,y6,_⟩:=d3
     obtain ⟨gF,yF,_⟩:=d6
     rw [y6] at e56
     rw [yF] at e59
     go_simp
     refine hK _ _ ?_
     exact ⟨hI,f0,f1,f2,fun h => (f3 h),f4,f5,fun h => (f6 h),fun _ => ⟨l3,l6,g6,c6,gF,y6,yF,rfl⟩,fun h => (f8 h),fun h => by have hh:=f9 h; simp [hL] at hh⟩
    ·intro L x a wR K hL hd hf hx hΦ hK
     obtain ⟨hI,f0,f1,f2,f3,f4,f5,f6,f7,f8,f9⟩:=hΦ
     clear hf hx hd
     go_simp
     refine hK _ _ ?_
     exact ⟨hI.alloc hI.size _,f0,f1,f2,fun h => match (f3 h) with | ⟨g6,c6,cs,a1,a2,a3,a4⟩ => ⟨g6,c6,cs,a1,a2,HK.blk_alloc a3 _,a4⟩,f4,f5,fun h => match (f6 h) with | ⟨gF,a1,a2,a3⟩ => ⟨gF,a1,a2,HK.blk_alloc a3 _⟩,f7,fun _ => ⟨wR.heap.size,rfl,hI.size,fun _ => HK.blk_new _ _⟩,fun h => by have hh:=f9 h; simp [hL] at hh⟩
    ·intro L x a wR K hL hd hf hx hΦ hK
     obtain ⟨hI,f0,f1,f2,f3,f4,f5,f6,f7,f8,f9⟩:=hΦ
     have d8:=f8 (hd 8 (by kernel_rfl))
     have e17:a.tmps[17]? = some (x 17):=hx 8 _ 17 rfl rfl (hd 8 (by kernel_rfl))
     have d7:=f7 (hd 7 (by kernel_rfl))
     have e60:a.tmps[60]? = some (x 60):=hx 7 _ 60 rfl rfl (hd 7 (by kernel_rfl))
     have l7:=hd 7 (by kernel_rfl)
     have l8:=hd 8 (by kernel_rfl)
     clear hf hx hd
     obtain ⟨M,hM1,hM2,hM3⟩:=d8
     obtain ⟨_,_,g6,c6,gF,y6,yF,y60⟩:=d7
     have hm:=hM3 hL
     have cf:=fun i => HK.blk_frozen hm i
     have c:=fun i => HK.blk_cell hm i
     rw [hM1] at e17
     rw [y60] at e60
     go_simp
     refine hK undef _ ?_
     exact ⟨put7_below hI hM2 _ _ _ _ _ _ _,f0,f1,f2,fun h => match (f3 h) with | ⟨g6,c6,cs,a1,a2,a3,a4⟩ => ⟨g6,c6,cs,a1,a2,put7_other a3 (fun e => by subst e; rw [a3] at hm; injection hm with hm; injection hm with _ h2 _; exact absurd h2 (by decide)) _ _ _ _ _ _ _,a4⟩,f4,f5,fun h => match (f6 h) with | ⟨gF,a1,a2,a3⟩ => ⟨gF,a1,a2,put7_other a3 (fun e => by subst e; rw [a3] at hm; injection hm with hm; injection hm with _ h2 _; exact absurd h2 (by decide)) _ _ _ _ _ _ _⟩,f7,fun h => match (f8 h) with | ⟨M,a1,a2,a3⟩ => ⟨M,a1,a2,fun q => by cases q⟩,fun _ => ⟨l7,l8,M,g6,c6,gF,hM1,hM2,y6,yF,put7_same hm rfl _ _ _ _ _ _ _⟩⟩
    ·rintro x W ⟨hI,f0,f1,f2,f3,f4,f5,f6,f7,f8,f9⟩
     obtain ⟨_,_,M,g6,c6,gF,hM1,hM2,y6,yF,hMo⟩:=f9 (by kernel_rfl)
     obtain ⟨g6',c6',cs,z1,z2,z3,z4⟩:=f3 (by kernel_rfl)
     obtain ⟨gF',u1,u2,u3⟩:=f6 (by kernel_rfl)
     rw [y6] at z1
     rw [yF] at u1
     cases z1
     cases u1
     simp only [Exit.then]
     gi_step
     gi_meet
     exact ⟨M,g6,c6,gF,cs,hM1,hM2,z2,u2,hMo,z3,z4,u3,hI⟩
   case rest =>
    obtain ⟨M,g6,c6,gF,cs6,rfl,hM,hg6,hgF,hMo,h6,h6v,hF,hB8⟩:=hcut
    have HN8:=hid (HN5.out.below hB8)
    have hz5:=HN5.out.hz
    have hMF:M ≠ gF:=fun e => by subst e; rw [hMo] at hF; injection hF with h; injection h with _ h2 _; exact absurd h2 (by decide)
    have h6F:g6 ≠ gF:=fun e => by subst e; rw [h6] at hF; injection hF with h; injection h with _ h2 _; exact absurd h2 (by decide)
    have HMO:=hid hMo
    have HNB:=hid HN8.out.hn
    have HI8:=hid (HI5.out.below hB8)
    have HB8:=hid hB8
    have HF:=hid hF
    have H6:=hid h6
    have H6V:=hid h6v
    have HJP:Hid (j < p):=hid (by omega)
    have hg5:g5 < w5.heap.size:=by
     obtain ⟨x0,hx0⟩:∃ x0,L5[0]? = some x0:=⟨_,List.getElem?_eq_getElem (by have:=HT.out; omega)⟩
     exact World.block_lt_of_cell? w5 ⟨g5,0 + 0,none⟩ (HI5.out 0 x0 hx0)
    have hz8:=hB8.size
    have HG5W:Hid (g5 ≠ wb.heap.size + 3 /\ ws.heap.size <= g5):=hid ⟨by have:=HG5L.out; have:=HN5.out.hz; have:=HWS.out; omega,HG5L.out⟩
    clear hMo h6 h6v hF hB8 hpj hge HTR HPW
    have c7:=HK.blk_cell HNB.out 0
    have hwn:wrap64 ((nk:Int) - 1) = (nk:Int) - 1:=(IntWalk.i64_left _).symm.trans (IntWalk.i64_in _ (by have:=HK9.out; omega))
    gi_wp2_with (fail)
    clear c7
    gi_loopw [18] (fun v wx => ∃ (t:Nat) (cs:Array Value),t <= nk /\ v = .int .i64 ((t:Int) - 1) /\ wx.heap[wb.heap.size + 3]? = some (.cells #[.int .i64 ((j / T ^ (nk - t):Nat):Int)] 3 (0,0)) /\ wx.heap[gF]? = some (.cells cs 46 (0,0)) /\ cs.size = nk * 3 /\ (∀ q,t <= q -> q < nk -> ∀ s,ss[q]? = some s -> cs[q * 3]? = some (.string s) /\ cs[q * 3 + 1]? = some (.int .i64 0) /\ cs[q * 3 + 2]? = some (.int .i64 (((digs L5 nk j).getD q 0:Nat):Int))) /\ HK.Frm (fun kk => kk = gF ∨ kk = wb.heap.size + 3) wc wx) (fun v _ => (intOf v + 1).toNat)
    case atStart => exact ⟨nk,_,Nat.le_refl _,by rw [hwn],by rw [Nat.sub_self,Nat.pow_zero,Nat.div_one]; exact HN8.out.hi,HF.out,size_madeCells _ _,fun q h1 h2 => by omega,HK.Frm.refl _ _⟩
    case round =>
     obtain ⟨t,cs,htn,rfl,hib,hcs,hcz,hcv,hfr⟩:=hrel
     have HIB:=hid hib
     have HCS:=hid hcs
     have HCV:=hid hcv
     have HFR:=hid hfr
     have HCZ:=hid hcz
     clear hib hcs hcv hfr hcz
     by_cases ht0:t = 0
     ·subst ht0
      have hneg:¬ (0:Int) <= ((0:Nat):Int) - 1:=by omega
      have hmo:=HK.Frm.heap HFR.out HMO.out (by omega)
      have h10:=HK.Frm.heap HFR.out HN8.out.hr (by omega)
      have h11:=HK.Frm.heap HFR.out HN8.out.he (by omega)
      have m0:=HK.blk_cell hmo 0
      have m1:=HK.blk_cell hmo 1
      have m2:=HK.blk_cell hmo 2
      have m3:=HK.blk_cell hmo 3
      have m4:=HK.blk_cell hmo 4
      have m5:=HK.blk_cell hmo 5
      have m6:=HK.blk_cell hmo 6
      have k10:=fun i => HK.blk_cell h10 i
      have f10:=fun i => HK.blk_frozen h10 i
      have k11:=HK.blk_cell h11 0
      have f11:=HK.blk_frozen h11 0
      have H10:=hid h10
      have H11:=hid h11
      clear hmo h10 h11
      gi_wp2
      obtain ⟨W9,hW9⟩:∃ X,X = ((((((((wr.setCell ⟨wb.heap.size + 4,0,none⟩ (.int .u8 (kind:Int))).setCell ⟨wb.heap.size + 4,1,none⟩ (.int .i64 (n:Int))).setCell ⟨wb.heap.size + 4,2,none⟩ (.slice (some ⟨g6,0,none⟩) n c6)).setCell ⟨wb.heap.size + 4,3,none⟩ (.int .i64 0)).setCell ⟨wb.heap.size + 4,4,none⟩ (.slice (some ⟨gF,0,none⟩) nk nk)).setCell ⟨wb.heap.size + 4,5,none⟩ (.slice none 0 0)).setCell ⟨wb.heap.size + 4,6,none⟩ (.slice none 0 0)).setCell ⟨wb.heap.size + 5,0,none⟩ (.int .i64 0)):=⟨_,rfl⟩
      rw [<- hW9]
      have hw6:=HB6.out
      have hws0:=HWS.out
      have hb5:=HB5.out.size
      have hb8:=HB8.out.size
      have hfr9:=HFR.out.size
      have hw0z:=HW0.out
      have hsm:∀ kk,kk ≠ wb.heap.size + 4 -> kk ≠ wb.heap.size + 5 -> W9.heap[kk]? = wr.heap[kk]?:=fun kk n4 n5 => by
       rw [hW9]; iterate 8 (rw [Below.heap_setCell _ _ _ _ (by simp only; omega)])
      have h94:W9.heap[wb.heap.size + 4]? = some (.cells #[.int .u8 (kind:Int),.int .i64 (n:Int),.slice (some ⟨g6,0,none⟩) n c6,.int .i64 0,.slice (some ⟨gF,0,none⟩) nk nk,.slice none 0 0,.slice none 0 0] 30 (0,0)):=by
       rw [hW9,Below.heap_setCell _ _ _ _ (by simp only; omega)]
       exact put7_same H10.out rfl _ _ _ _ _ _ _
      have h95:W9.heap[wb.heap.size + 5]? = some (.cells #[.int .i64 0] 38 (0,0)):=by
       have:=HK.blk_set (put7_other H11.out (M:=wb.heap.size + 4) (by omega) (.int .u8 (kind:Int)) (.int .i64 (n:Int)) (.slice (some ⟨g6,0,none⟩) n c6) (.int .i64 0) (.slice (some ⟨gF,0,none⟩) nk nk) (.slice none 0 0) (.slice none 0 0)) 0 (.int .i64 0)
       rw [hW9]
       simpa using this
      have hz9:wr.heap.size <= W9.heap.size:=by rw [hW9]; simp
      have hbw:Below wb.heap.size wb wr:=HN8.out.hB.trans (HFR.out.below (by omega) (fun kk h => by rcases h with h | h <;> omega))
      have hB9:Below wb.heap.size wb W9:=by
       rw [hW9]
       exact ((((((((hbw.setCell (by simp) _).setCell (by simp) _).setCell (by simp) _).setCell (by simp) _).setCell (by simp) _).setCell (by simp) _).setCell (by simp) _).setCell (by simp) _)
      have hbl:b < ws.heap.size:=HK.blk_lt (show ws.heap[b]? = some _ from HROW.out)
      refine ⟨⟨by omega,fun kk ob hk ho _ => ?_⟩,rfl,pre,xr,_,rfl,by rw [<- HS.out]; exact HSI.out,by rw [<- HS.out,<- HJ.out,HWY.out]; exact HJP.out,h94,h95,hB9,by omega,?_⟩
      ·have hlt:=HK.blk_lt ho
       exact (hsm kk (by omega) (by omega)).trans ((HFR.out.block kk (by omega) (by omega)).trans ((HB8.out.block kk (by omega)).trans ((HB5.out.block kk hlt).trans ho)))
      ·refine ⟨g6,c6,gF,cs6,cs,rfl,by omega,by omega,(hsm g6 (by omega) (by omega)).trans (HK.Frm.heap HFR.out H6.out (by omega)),H6V.out,(hsm gF (by omega) (by omega)).trans HCS.out,?_⟩
       intro t s d hs hd
       rw [<- HL5.out,<- HS.out,<- HJ.out] at hd
       obtain ⟨e0,e1,e2⟩:=HCV.out t (by omega) (by have:=(List.getElem?_eq_some_iff.1 hs).1; have:=HNK.out; omega) s hs
       rw [List.getD_eq_getElem?_getD,hd] at e2
       exact ⟨e0,e1,e2⟩
     ·obtain ⟨u,rfl⟩:∃ u,t = u + 1:=⟨t - 1,by omega⟩
      rw [show ((u + 1:Nat):Int) - 1 = (u:Int) by omega]
      obtain ⟨sn,hsn⟩:∃ sn,ss[u]? = some sn:=⟨_,List.getElem?_eq_getElem (by have:=HNK.out; omega)⟩
      obtain ⟨_,gn,on,hna,hgn,hcn⟩:=HSS.out u sn hsn
      obtain ⟨Nq,hNq⟩:∃ N,N = j / T ^ (nk - (u + 1)):=⟨_,rfl⟩
      rw [<- hNq] at HIB
      obtain ⟨r,hr⟩:∃ r,r = Nq % T:=⟨_,rfl⟩
      have hrT:r < T:=by rw [hr]; exact Nat.mod_lt _ (by omega)
      obtain ⟨dv,hdv⟩:∃ d,L5[r]? = some d:=⟨_,List.getElem?_eq_getElem (by rw [<- HT.out]; exact hrT)⟩
      have HDV:Hid ((digs L5 nk j).getD u 0 = dv):=hid (by
       unfold digs
       rw [List.getD_eq_getElem?_getD,List.getElem?_map,List.getElem?_eq_getElem (by rw [List.length_range]; omega),List.getElem_range]
       simp only [Option.map_some,Option.getD_some]
       rw [<- HT.out,show nk - 1 - u = nk - (u + 1) by omega,<- hNq,<- hr,List.getD_eq_getElem?_getD,hdv]
       rfl)
      have HQ2:Hid (((Nq / T:Nat):Int) = ((j / T ^ (nk - u):Nat):Int)):=hid (by rw [hNq,Nat.div_div_eq_div_mul,<- Nat.pow_succ,show (nk - (u + 1)).succ = nk - u by omega])
      have hqj:Nq <= j:=by rw [hNq]; exact Nat.div_le_self _ _
      obtain ⟨q2,hq2⟩:∃ q,q = Nq / T:=⟨_,rfl⟩
      rw [<- hq2] at HQ2
      have hq2j:q2 <= j:=by rw [hq2]; exact Nat.le_trans (Nat.div_le_self _ _) hqj
      have hti:¬ T = 0:=by omega
      have HRM:Hid ((Nq:Int).tmod (T:Int) = (r:Int) /\ ¬ T = 0):=hid ⟨by rw [hr]; exact (Int.ofNat_tmod Nq T).symm,by omega⟩
      have hquo:(Nq:Int).tdiv (T:Int) = (q2:Int):=by rw [hq2]; exact (Int.ofNat_tdiv Nq T).symm
      have hqw:IntKind.i64.wrap (q2:Int) = (q2:Int):=IntWalk.i64_in _ (by omega)
      have HRL:Hid ((0:Int) <= (r:Int) /\ (r:Int) < (T:Int)):=hid (by omega)
      have HU:Hid ((0:Int) <= (u:Int) /\ (u:Int) < (nk:Int)):=hid (by omega)
      have hb9:=HN8.out.hB
      have HCN:Hid (wr.cell? ⟨gn,on + u,none⟩ = some (.string sn)):=hid (by
       have e1:=(hb9.cell (p:=⟨gn,on + u,none⟩) hgn).trans hcn
       exact (World.cell?_of_block (a:=⟨gn,on + u,none⟩) (HFR.out.block gn (Nat.lt_of_lt_of_le hgn hb9.size) (by omega))).trans e1)
      have HCR:Hid (wr.cell? ⟨g5,r,none⟩ = some (.int .i64 (dv:Int))):=hid (by
       have e1:=HI8.out r dv hdv
       rw [Nat.zero_add] at e1
       exact (World.cell?_of_block (a:=⟨g5,r,none⟩) (HFR.out.block g5 (by omega) (by have:=HG5W.out; omega))).trans e1)
      have HGN:Hid (gn < wr.heap.size /\ ¬ gn = gF):=hid ⟨by have:=HFR.out.size; have:=hb9.size; omega,by omega⟩
      have HG5:Hid (g5 < wr.heap.size /\ ¬ g5 = gF):=hid ⟨by have:=HFR.out.size; omega,by omega⟩
      have HMF:Hid (¬ M = gF /\ ¬ wb.heap.size + 1 = gF /\ ¬ wb.heap.size + 3 = gF /\ True):=hid ⟨hMF,by omega,by omega,trivial⟩
      have HMO:=hid (HK.Frm.heap HFR.out HMO.out (by omega))
      have HNB:=hid (HK.Frm.heap HFR.out HNB.out (by omega))
      have HO0:Hid ((∃ o,cs[u * 3]? = some o) /\ (∃ o,cs[u * 3 + 1]? = some o) /\ ∃ o,cs[u * 3 + 2]? = some o):=hid ⟨⟨_,Array.getElem?_eq_getElem (by have:=HCZ.out; omega)⟩,⟨_,Array.getElem?_eq_getElem (by have:=HCZ.out; omega)⟩,⟨_,Array.getElem?_eq_getElem (by have:=HCZ.out; omega)⟩⟩
      have HWU:Hid (wrap64 ((u:Int) - 1) = (u:Int) - 1):=hid ((IntWalk.i64_left _).symm.trans (IntWalk.i64_in _ (by have:=HK9.out; omega)))
      have HSN:=hid hsn
      subst hna
      have hui:(0:Int) <= (u:Int):=by omega
      clear hcn hdv hr hNq hq2 hsn hb9
      gi_upto_region 16 with (fail)
      clear hui
      gi_cut [88,89] from 68 (fun x88 x89 wx => x88 = u88 /\ x89 = u89 /\ HK.Frm (fun k => k = gF) wr wx /\ wx.heap[gF]? = some (.cells (((cs.setIfInBounds (u * 3) (.string sn)).setIfInBounds (u * 3 + 1) (.int .i64 0)).setIfInBounds (u * 3 + 2) (.int .i64 (dv:Int))) 46 (0,0)))
      case first =>
       refine Go.RE.wpIn_region_each [68,69,70,71,72,73,74,75,76,77,78,79,80,81,82,83] (fun L x W => (HK.Frm (fun k => k = gF) wr W /\ (L 16 = false -> W.heap[gF]? = some (.cells cs 46 (0,0)))) /\ (L 0 = true -> x 68 = .pointer (some ⟨M,4,none⟩)) /\ (L 1 = true -> x 69 = .slice (some ⟨gF,0,none⟩) nk nk) /\ (L 2 = true -> x 70 = .int .i64 (u:Int)) /\ (L 3 = true -> x 71 = .slice (some ⟨gn,on,none⟩) nk nc) /\ (L 4 = true -> x 72 = .int .i64 (u:Int)) /\ (L 5 = true -> x 73 = .pointer (some ⟨gn,on + u,none⟩)) /\ (L 6 = true -> x 74 = .string sn) /\ (L 7 = true -> x 75 = .slice (some ⟨g5,0,none⟩) T tc) /\ (L 8 = true -> x 76 = .int .i64 (Nq:Int)) /\ (L 9 = true -> x 77 = .slice (some ⟨g5,0,none⟩) T tc) /\ (L 10 = true -> x 78 = .int .i64 (T:Int)) /\ (L 11 = true -> x 79 = .int .i64 (r:Int)) /\ (L 12 = true -> x 80 = .pointer (some ⟨g5,r,none⟩)) /\ (L 13 = true -> x 81 = .int .i64 (dv:Int)) /\ (L 14 = true -> x 82 = .agg #[.string sn,.int .i64 0,.int .i64 (dv:Int)]) /\ (L 15 = true -> x 83 = .pointer (some ⟨gF,u * 3,none⟩)) /\ (L 16 = true -> W.heap[gF]? = some (.cells (((cs.setIfInBounds (u * 3) (.string sn)).setIfInBounds (u * 3 + 1) (.int .i64 0)).setIfInBounds (u * 3 + 2) (.int .i64 (dv:Int))) 46 (0,0)))) (by kernel_rfl) (by kernel_rfl) ?_ (by kernel_rfl) (by kernel_rfl) ?_ ((Go.RE.Each.cons ?_ (Go.RE.Each.cons ?_ (Go.RE.Each.cons ?_ (Go.RE.Each.cons ?_ (Go.RE.Each.cons ?_ (Go.RE.Each.cons ?_ (Go.RE.Each.cons ?_ (Go.RE.Each.cons ?_ (Go.RE.Each.cons ?_ (Go.RE.Each.cons ?_ (Go.RE.Each.cons ?_ (Go.RE.Each.cons ?_ (Go.RE.Each.cons ?_ (Go.RE.Each.cons ?_ (Go.RE.Each.cons ?_ (Go.RE.Each.cons ?_ (Go.RE.Each.cons ?_ Go.RE.Each.nil)))))))))))))))))) ?_
       ·rintro ⟨a,w,h⟩; exact h
       ·exact fun x => ⟨⟨HK.Frm.drew (HK.Frm.refl _ _),fun _ => HCS.out⟩,nofun,nofun,nofun,nofun,nofun,nofun,nofun,nofun,nofun,nofun,nofun,nofun,nofun,nofun,nofun,nofun,nofun⟩
       ·intro L x a wR K hL hd hf hx hΦ hK
        obtain ⟨hI,f0,f1,f2,f3,f4,f5,f6,f7,f8,f9,f10,f11,f12,f13,f14,f15,f16⟩:=hΦ
        have e17:a.tmps[17]? = some (.pointer (some ⟨M,0,none⟩)):=hf 17 (of_decide_eq_true (by kernel_rfl))
        clear hf hx hd
        go_simp
        refine hK _ _ ?_
        exact ⟨hI,fun _ => rfl,f1,f2,f3,f4,f5,f6,f7,f8,f9,f10,f11,f12,f13,f14,f15,f16⟩
       ·intro L x a wR K hL hd hf hx hΦ hK
        obtain ⟨hI,f0,f1,f2,f3,f4,f5,f6,f7,f8,f9,f10,f11,f12,f13,f14,f15,f16⟩:=hΦ
        have d0:=f0 (hd 0 (by kernel_rfl))
        have e68:a.tmps[68]? = some (x 68):=hx 0 _ 68 rfl rfl (hd 0 (by kernel_rfl))
        rw [d0] at e68
        have c:=HK.blk_cell (HK.Frm.heap hI.1 HMO.out HMF.out.1) 4
        clear hf hx hd
        go_simp
        refine hK _ _ ?_
        exact ⟨hI,f0,fun _ => rfl,f2,f3,f4,f5,f6,f7,f8,f9,f10,f11,f12,f13,f14,f15,f16⟩
       ·intro L x a wR K hL hd hf hx hΦ hK
        obtain ⟨hI,f0,f1,f2,f3,f4,f5,f6,f7,f8,f9,f10,f11,f12,f13,f14,f15,f16⟩:=hΦ
        have e18:a.tmps[18]? = some (.int .i64 (u:Int)):=hf 18 (of_decide_eq_true (by kernel_rfl))
        clear hf hx hd
        go_simp
        refine hK _ _ ?_
        exact ⟨hI,f0,f1,fun _ => rfl,f3,f4,f5,f6,f7,f8,f9,f10,f11,f12,f13,f14,f15,f16⟩
       ·intro L x a wR K hL hd hf hx hΦ hK
        obtain ⟨hI,f0,f1,f2,f3,f4,f5,f6,f7,f8,f9,f10,f11,f12,f13,f14,f15,f16⟩:=hΦ
        have e7:a.tmps[7]? = some (.pointer (some ⟨wb.heap.size + 1,0,none⟩)):=hf 7 (of_decide_eq_true (by kernel_rfl))
        have c:=HK.blk_cell (HK.Frm.heap hI.1 HNB.out HMF.out.2.1) 0
        clear hf hx hd
        go_simp
        refine hK _ _ ?_
        exact ⟨hI,f0,f1,f2,fun _ => rfl,f4,f5,f6,f7,f8,f9,f10,f11,f12,f13,f14,f15,f16⟩
       ·intro L x a wR K hL hd hf hx hΦ hK
        obtain ⟨hI,f0,f1,f2,f3,f4,f5,f6,f7,f8,f9,f10,f11,f12,f13,f14,f15,f16⟩:=hΦ
        have e18:a.tmps[18]? = some (.int .i64 (u:Int)):=hf 18 (of_decide_eq_true (by kernel_rfl))
        clear hf hx hd
        go_simp
        refine hK _ _ ?_
        exact ⟨hI,f0,f1,f2,f3,fun _ => rfl,f5,f6,f7,f8,f9,f10,f11,f12,f13,f14,f15,f16⟩
       ·intro L x a wR K hL hd hf hx hΦ hK
        obtain ⟨hI,f0,f1,f2,f3,f4,f5,f6,f7,f8,f9,f10,f11,f12,f13,f14,f15,f16⟩:=hΦ
        have d3:=f3 (hd 3 (by kernel_rfl))
        have e71:a.tmps[71]? = some (x 71):=hx 3 _ 71 rfl rfl (hd 3 (by kernel_rfl))
        rw [d3] at e71
        have d4:=f4 (hd 4 (by kernel_rfl))
        have e72:a.tmps[72]? = some (x 72):=hx 4 _ 72 rfl rfl (hd 4 (by kernel_rfl))
        rw [d4] at e72
        have u1:=HU.out.1
        have u2:=HU.out.2
        clear hf hx hd
        go_simp
        refine hK _ _ ?_
        exact ⟨hI,f0,f1,f2,f3,f4,fun _ => rfl,f6,f7,f8,f9,f10,f11,f12,f13,f14,f15,f16⟩
       ·intro L x a wR K hL hd hf hx hΦ hK
        obtain ⟨hI,f0,f1,f2,f3,f4,f5,f6,f7,f8,f9,f10,f11,f12,f13,f14,f15,f16⟩:=hΦ
        have d5:=f5 (hd 5 (by kernel_rfl))
        have e73:a.tmps[73]? = some (x 73):=hx 5 _ 73 rfl rfl (hd 5 (by kernel_rfl))
        rw [d5] at e73
        have c:=(World.cell?_of_block (a:=⟨gn,on + u,none⟩) (hI.1.block gn HGN.out.1 HGN.out.2)).trans HCN.out
        clear hf hx hd
        go_simp
        refine hK _ _ ?_
        exact ⟨hI,f0,f1,f2,f3,f4,f5,fun _ => rfl,f7,f8,f9,f10,f11,f12,f13,f14,f15,f16⟩
       ·intro L x a wR K hL hd hf hx hΦ hK
        obtain ⟨hI,f0,f1,f2,f3,f4,f5,f6,f7,f8,f9,f10,f11,f12,f13,f14,f15,f16⟩:=hΦ
        have e15:a.tmps[15]? = some (.slice (some ⟨g5,0,none⟩) T tc):=hf 15 (of_decide_eq_true (by kernel_rfl))
        clear hf hx hd
        go_simp
        refine hK _ _ ?_
        exact ⟨hI,f0,f1,f2,f3,f4,f5,f6,fun _ => rfl,f8,f9,f10,f11,f12,f13,f14,f15,f16⟩
       ·intro L x a wR K hL hd hf hx hΦ hK
        obtain ⟨hI,f0,f1,f2,f3,f4,f5,f6,f7,f8,f9,f10,f11,f12,f13,f14,f15,f16⟩:=hΦ
        have e9:a.tmps[9]? = some (.pointer (some ⟨wb.heap.size + 3,0,none⟩)):=hf 9 (of_decide_eq_true (by kernel_rfl))
        have c:=HK.blk_cell (HK.Frm.heap hI.1 HIB.out HMF.out.2.2.1) 0
        clear hf hx hd
        go_simp
        refine hK _ _ ?_
        exact ⟨hI,f0,f1,f2,f3,f4,f5,f6,f7,fun _ => rfl,f9,f10,f11,f12,f13,f14,f15,f16⟩
       ·intro L x a wR K hL hd hf hx hΦ hK
        obtain ⟨hI,f0,f1,f2,f3,f4,f5,f6,f7,f8,f9,f10,f11,f12,f13,f14,f15,f16⟩:=hΦ
        have e15:a.tmps[15]? = some (.slice (some ⟨g5,0,none⟩) T tc):=hf 15 (of_decide_eq_true (by kernel_rfl))
        clear hf hx hd
        go_simp
        refine hK _ _ ?_
        exact ⟨hI,f0,f1,f2,f3,f4,f5,f6,f7,f8,fun _ => rfl,f10,f11,f12,f13,f14,f15,f16⟩
       ·intro L x a wR K hL hd hf hx hΦ hK
        obtain ⟨hI,f0,f1,f2,f3,f4,f5,f6,f7,f8,f9,f10,f11,f12,f13,f14,f15,f16⟩:=hΦ
        have d9:=f9 (hd 9 (by kernel_rfl))
        have e77:a.tmps[77]? = some (x 77):=hx 9 _ 77 rfl rfl (hd 9 (by kernel_rfl))
        rw [d9] at e77
        clear hf hx hd
        go_simp
        refine hK _ _ ?_
        exact ⟨hI,f0,f1,f2,f3,f4,f5,f6,f7,f8,f9,fun _ => rfl,f11,f12,f13,f14,f15,f16⟩
       ·intro L x a wR K hL hd hf hx hΦ hK
        obtain ⟨hI,f0,f1,f2,f3,f4,f5,f6,f7,f8,f9,f10,f11,f12,f13,f14,f15,f16⟩:=hΦ
        have d8:=f8 (hd 8 (by kernel_rfl))
        have e76:a.tmps[76]? = some (x 76):=hx 8 _ 76 rfl rfl (hd 8 (by kernel_rfl))
        rw [d8] at e76
        have d10:=f10 (hd 10 (by kernel_rfl))
        have e78:a.tmps[78]? = some (x 78):=hx 10 _ 78 rfl rfl (hd 10 (by kernel_rfl))
        rw [d10] at e78
        have hrm:=HRM.out.1
        have ht0:=HRM.out.2
        clear hf hx hd
        go_simp
        refine hK _ _ ?_
        exact ⟨hI,f0,f1,f2,f3,f4,f5,f6,f7,f8,f9,f10,fun _ => rfl,f12,f13,f14,f15,f16⟩
       ·intro L x a wR K hL hd hf hx hΦ hK
        obtain ⟨hI,f0,f1,f2,f3,f4,f5,f6,f7,f8,f9,f10,f11,f12,f13,f14,f15,f16⟩:=hΦ
        have d7:=f7 (hd 7 (by kernel_rfl))
        have e75:a.tmps[75]? = some (x 75):=hx 7 _ 75 rfl rfl (hd 7 (by kernel_rfl))
        rw [d7] at e75
        have d11:=f11 (hd 11 (by kernel_rfl))
        have e79:a.tmps[79]? = some (x 79):=hx 11 _ 79 rfl rfl (hd 11 (by kernel_rfl))
        rw [d11] at e79
        have r1:=HRL.out.1
        have r2:=HRL.out.2
        clear hf hx hd
        go_simp
        refine hK _ _ ?_
        exact ⟨hI,f0,f1,f2,f3,f4,f5,f6,f7,f8,f9,f10,f11,fun _ => rfl,f13,f14,f15,f16⟩
       ·intro L x a wR K hL hd hf hx hΦ hK
        obtain ⟨hI,f0,f1,f2,f3,f4,f5,f6,f7,f8,f9,f10,f11,f12,f13,f14,f15,f16⟩:=hΦ
        have d12:=f12 (hd 12 (by kernel_rfl))
        have e80:a.tmps[80]? = some (x 80):=hx 12 _ 80 rfl rfl (hd 12 (by kernel_rfl))
        rw [d12] at e80
        have c:=(World.cell?_of_block (a:=⟨g5,r,none⟩) (hI.1.block g5 HG5.out.1 HG5.out.2)).trans HCR.out
        clear hf hx hd
        go_simp
        refine hK _ _ ?_
        exact ⟨hI,f0,f1,f2,f3,f4,f5,f6,f7,f8,f9,f10,f11,f12,fun _ => rfl,f14,f15,f16⟩
       ·intro L x a wR K hL hd hf hx hΦ hK
        obtain ⟨hI,f0,f1,f2,f3,f4,f5,f6,f7,f8,f9,f10,f11,f12,f13,f14,f15,f16⟩:=hΦ
        have d6:=f6 (hd 6 (by kernel_rfl))
        have e74:a.tmps[74]? = some (x 74):=hx 6 _ 74 rfl rfl (hd 6 (by kernel_rfl))
        rw [d6] at e74
        have d13:=f13 (hd 13 (by kernel_rfl))
        have e81:a.tmps[81]? = some (x 81):=hx 13 _ 81 rfl rfl (hd 13 (by kernel_rfl))
        rw [d13] at e81
        clear hf hx hd
        go_simp
        refine hK _ _ ?_
        exact ⟨hI,f0,f1,f2,f3,f4,f5,f6,f7,f8,f9,f10,f11,f12,f13,fun _ => rfl,f15,f16⟩
       ·intro L x a wR K hL hd hf hx hΦ hK
        obtain ⟨hI,f0,f1,f2,f3,f4,f5,f6,f7,f8,f9,f10,f11,f12,f13,f14,f15,f16⟩:=hΦ
        have d1:=f1 (hd 1 (by kernel_rfl))
        have e69:a.tmps[69]? = some (x 69):=hx 1 _ 69 rfl rfl (hd 1 (by kernel_rfl))
        rw [d1] at e69
        have d2:=f2 (hd 2 (by kernel_rfl))
        have e70:a.tmps[70]? = some (x 70):=hx 2 _ 70 rfl rfl (hd 2 (by kernel_rfl))
        rw [d2] at e70
        have u1:=HU.out.1
        have u2:=HU.out.2
        clear hf hx hd
        go_simp
        refine hK _ _ ?_
        exact ⟨hI,f0,f1,f2,f3,f4,f5,f6,f7,f8,f9,f10,f11,f12,f13,f14,fun _ => rfl,f16⟩
       ·intro L x a wR K hL hd hf hx hΦ hK
        obtain ⟨hI,f0,f1,f2,f3,f4,f5,f6,f7,f8,f9,f10,f11,f12,f13,f14,f15,f16⟩:=hΦ
        have d15:=f15 (hd 15 (by kernel_rfl))
        have e83:a.tmps[83]? = some (x 83):=hx 15 _ 83 rfl rfl (hd 15 (by kernel_rfl))
        rw [d15] at e83
        have d14:=f14 (hd 14 (by kernel_rfl))
        have e82:a.tmps[82]? = some (x 82):=hx 14 _ 82 rfl rfl (hd 14 (by kernel_rfl))
        rw [d14] at e82
        have hm:=hI.2 hL
        have cf:=fun i => HK.blk_frozen hm i
        obtain ⟨⟨o0,p0⟩,⟨o1,p1⟩,o2,p2⟩:=HO0.out
        have k0:=(HK.blk_cell hm (u * 3)).trans p0
        have k1:=(HK.blk_cell hm (u * 3 + 1)).trans p1
        have k2:=(HK.blk_cell hm (u * 3 + 2)).trans p2
        clear hf hx hd
        go_simp
        refine hK undef _ ?_
        exact ⟨⟨((hI.1.setCell (p:=⟨gF,u * 3,none⟩) (.inl rfl) _).setCell (p:=⟨gF,u * 3 + 1,none⟩) (.inl rfl) _).setCell (p:=⟨gF,u * 3 + 2,none⟩) (.inl rfl) _,fun h => by cases h⟩,f0,f1,f2,f3,f4,f5,f6,f7,f8,f9,f10,f11,f12,f13,f14,f15,fun _ => HK.blk_set (HK.blk_set (HK.blk_set hm (u * 3) _) (u * 3 + 1) _) (u * 3 + 2) _⟩
       ·rintro x W ⟨hI,f0,f1,f2,f3,f4,f5,f6,f7,f8,f9,f10,f11,f12,f13,f14,f15,f16⟩
        simp only [Exit.then]
        gi_step
        gi_meet
        exact ⟨rfl,rfl,hI.1,f16 (by kernel_rfl)⟩
      case rest =>
       obtain ⟨rfl,rfl,hf2,hst⟩:=hcut
       have hbx:=HK.Frm.heap hf2 HIB.out HMF.out.2.2.1
       have HFR2:=hid hf2
       have HST:=hid hst
       have HBX:=hid hbx
       have k9:=HK.blk_cell hbx 0
       have z9:=HK.blk_frozen hbx 0
       clear hf2 hst hbx
       gi_wp2
       go_roundw
       case rel =>
        have hb:=HK.blk_set HBX.out 0 (.int .i64 (q2:Int))
        refine ⟨u,_,by omega,by rw [HWU.out],by rw [<- HQ2.out]; simpa using hb,(Below.heap_setCell _ _ _ _ (by have:=HMF.out.2.2.1; simp only; omega)).trans HST.out,by simpa using HCZ.out,?_,(HFR.out.trans (HFR2.out.mono fun k h => .inl h)).setCell (p:=⟨wb.heap.size + 3,0,none⟩) (.inl (.inr rfl)) _⟩
        intro q hq1 hq2 s hs
        have hcz:=HCZ.out
        by_cases hqu:q = u
        ·subst hqu
         rw [HSN.out] at hs
         cases hs
         rw [HDV.out]
         exact set3_same (by omega) _ _ _
        ·obtain ⟨e0,e1,e2⟩:=HCV.out q (by omega) hq2 s hs
         exact ⟨(set3_other (by omega) (by omega) (by omega) _ _ _).trans e0,(set3_other (by omega) (by omega) (by omega) _ _ _).trans e1,(set3_other (by omega) (by omega) (by omega) _ _ _).trans e2⟩
       case measure => have hw:=HWU.out; simp [intOf,hw] <;> omega
 case done =>
  rintro D ys W hD rfl hI hK
  have HPN:Hid (pick (waysR (decide (kind = 3)) n nk) (relsL (decide (kind = 3)) mask n) i = none):=hid (pick_none.2 hI.1)
  have HI:=hid hI.2
  have HKD:=hid hK
  have HD:=hid hD
  have HSZ:=hid hz0
  clear hI hK hD hz0 hI0 hseq hb hb6
  have k4:=HK.blk_cell HI.out.hr
  have f4:=HK.blk_frozen HI.out.hr
  have k5:=HK.blk_cell HI.out.he 0
  have f5:=HK.blk_frozen HI.out.he 0
  gi_wp2
  obtain ⟨W9,hW9⟩:∃ X,X = ((((((((W.setCell ⟨wb.heap.size + 4,0,none⟩ (.int .u8 0)).setCell ⟨wb.heap.size + 4,1,none⟩ (.int .i64 0)).setCell ⟨wb.heap.size + 4,2,none⟩ (.slice none 0 0)).setCell ⟨wb.heap.size + 4,3,none⟩ (.int .i64 0)).setCell ⟨wb.heap.size + 4,4,none⟩ (.slice none 0 0)).setCell ⟨wb.heap.size + 4,5,none⟩ (.slice none 0 0)).setCell ⟨wb.heap.size + 4,6,none⟩ (.slice none 0 0)).setCell ⟨wb.heap.size + 5,0,none⟩ (.int .i64 6)):=⟨_,rfl⟩
  rw [<- hW9]
  have hDn:wb.heap.size + 6 <= D:=by have:=HD.out; have:=HSZ.out; omega
  have hK9:W9.heap[D]? = some (.deferred (some [])):=by
   rw [hW9]; iterate 8 (rw [Below.heap_setCell _ _ _ _ (by simp only; omega)])
   exact HKD.out
  have hB9:Below wb.heap.size wb W9:=by
   rw [hW9]
   exact ((((((((HI.out.hB.setCell (by simp) _).setCell (by simp) _).setCell (by simp) _).setCell (by simp) _).setCell (by simp) _).setCell (by simp) _).setCell (by simp) _).setCell (by simp) _)
  have h94:W9.heap[wb.heap.size + 4]? = some (.cells #[.int .u8 0,.int .i64 0,.slice none 0 0,.int .i64 0,.slice none 0 0,.slice none 0 0,.slice none 0 0] 30 (0,0)):=by
   rw [hW9,Below.heap_setCell _ _ _ _ (by simp only; omega)]
   have:=HK.blk_set (HK.blk_set (HK.blk_set (HK.blk_set (HK.blk_set (HK.blk_set (HK.blk_set HI.out.hr 0 (.int .u8 0)) 1 (.int .i64 0)) 2 (.slice none 0 0)) 3 (.int .i64 0)) 4 (.slice none 0 0)) 5 (.slice none 0 0)) 6 (.slice none 0 0)
   simpa using this
  have h95:W9.heap[wb.heap.size + 5]? = some (.cells #[.int .i64 6] 38 (0,0)):=by
   have:=HK.blk_set (HK.blk_set_other (HK.blk_set_other (HK.blk_set_other (HK.blk_set_other (HK.blk_set_other (HK.blk_set_other (HK.blk_set_other HI.out.he (p:=⟨wb.heap.size + 4,0,none⟩) (by simp) (.int .u8 0)) (p:=⟨wb.heap.size + 4,1,none⟩) (by simp) (.int .i64 0)) (p:=⟨wb.heap.size + 4,2,none⟩) (by simp) (.slice none 0 0)) (p:=⟨wb.heap.size + 4,3,none⟩) (by simp) (.int .i64 0)) (p:=⟨wb.heap.size + 4,4,none⟩) (by simp) (.slice none 0 0)) (p:=⟨wb.heap.size + 4,5,none⟩) (by simp) (.slice none 0 0)) (p:=⟨wb.heap.size + 4,6,none⟩) (by simp) (.slice none 0 0)) 0 (.int .i64 6)
   rw [hW9]
   simpa using this
  have r0:(W9.putObj D (.deferred none)).heap[wb.heap.size + 4]? = some (Obj.cells #[.int .u8 0,.int .i64 0,.slice none 0 0,.int .i64 0,.slice none 0 0,.slice none 0 0,.slice none 0 0] 30 (0,0)):=(World.putObj_heap_other (by omega)).trans h94
  have r1:(W9.putObj D (.deferred none)).heap[wb.heap.size + 5]? = some (Obj.cells #[.int .i64 6] 38 (0,0)):=(World.putObj_heap_other (by omega)).trans h95
  have t0:=HK.blk_cell r0 0
  have t1:=HK.blk_cell r0 1
  have t2:=HK.blk_cell r0 2
  have t3:=HK.blk_cell r0 3
  have t4:=HK.blk_cell r0 4
  have t5:=HK.blk_cell r0 5
  have t6:=HK.blk_cell r0 6
  have t7:=HK.blk_cell r1 0
  have HK9:=hid hK9
  have HB9:=hid hB9
  clear hK9 hB9 h94 h95 hW9 k4 f4 k5 f5 r0 r1
  refine ⟨by simp,.inl ⟨_,_,rfl,run_takeDeferred HK9.out,?_⟩⟩
  refine ⟨.tuple #[.agg #[.int .u8 0,.int .i64 0,.slice none 0 0,.int .i64 0,.slice none 0 0,.slice none 0 0,.slice none 0 0],.int .i64 6],by simp [results,Tryd.results33,go_sem,t0,t1,t2,t3,t4,t5,t6,t7],?_,.inl ⟨HPN.out,rfl⟩⟩
  exact HB9.out.grown (grownBy_putObj' W9 D _) (by have:=HB9.out.size; omega) (fun k e => by cases e; omega)
 case stop =>
  rintro D c pre W hD hpre ⟨rfl,p,x,v,rfl,hs1,hs2,hv4,hv5,hB,hz,hX⟩ hK
  have HPS:Hid (pick (waysR (decide (kind = 3)) n nk) (relsL (decide (kind = 3)) mask n) i = some (x,i - sumK (decide (kind = 3)) n nk p)):=hid (by
   obtain ⟨r,hr⟩:=hpre
   rw [<- hr,List.append_assoc]
   exact pick_at hs1 hs2)
  have HKD:=hid hK
  have HD:=hid hD
  have HSZ:=hid hz0
  have HX:=hid hX
  have HV4:=hid hv4
  have HV5:=hid hv5
  have HB:=hid hB
  have HZ:=hid hz
  have HB6:Hid (b = B + 6 /\ wb.heap.size + 6 <= B):=hid ⟨hb6,hBw⟩
  clear hK hD hz0 hI0 hseq hb hb6 hpre hX hv4 hv5 hB hz hs1 hs2
  gi_wp2
  obtain ⟨g6,c6,gF,cs6,csF,rfl,x2,x3,x4,x5,x6,x7⟩:=HX.out.ex
  have hDn:wb.heap.size + 6 <= D:=by have:=HD.out; have:=HSZ.out; omega
  have r0:(W.putObj D (.deferred none)).heap[wb.heap.size + 4]? = _:=(World.putObj_heap_other (by omega)).trans HV4.out
  have r1:(W.putObj D (.deferred none)).heap[wb.heap.size + 5]? = _:=(World.putObj_heap_other (by omega)).trans HV5.out
  have t0:=HK.blk_cell r0 0
  have t1:=HK.blk_cell r0 1
  have t2:=HK.blk_cell r0 2
  have t3:=HK.blk_cell r0 3
  have t4:=HK.blk_cell r0 4
  have t5:=HK.blk_cell r0 5
  have t6:=HK.blk_cell r0 6
  have t7:=HK.blk_cell r1 0
  refine ⟨by simp,.inl ⟨_,_,rfl,run_takeDeferred HKD.out,?_⟩⟩
  refine ⟨.tuple #[.agg #[.int .u8 (kind:Int),.int .i64 (n:Int),.slice (some ⟨g6,0,none⟩) n c6,.int .i64 0,.slice (some ⟨gF,0,none⟩) nk nk,.slice none 0 0,.slice none 0 0],.int .i64 0],by simp [results,Tryd.results33,go_sem,t0,t1,t2,t3,t4,t5,t6,t7],?_,.inr ⟨_,_,_,HPS.out,rfl,?_⟩⟩
  ·exact HB.out.grown (grownBy_putObj' W D _) (by have:=HB.out.size; omega) (fun k e => by cases e; omega)
  ·have hpo:∀ (kk:Nat) (cs:Array Value) (t:Nat),W.heap[kk]? = some (Obj.cells cs t (0,0)) -> (W.putObj D (.deferred none)).heap[kk]? = some (Obj.cells cs t (0,0)):=fun kk cs t hc => by
    have hne:kk ≠ D:=fun e => by subst e; rw [HKD.out] at hc; cases hc
    exact (World.putObj_heap_other (fun e => hne e)).trans hc
   have hb9:=HSZ.out
   exact ⟨g6,c6,gF,cs6,csF,rfl,by have:=HB6.out; omega,by have:=HB6.out; omega,hpo _ _ _ x4,x5,hpo _ _ _ x6,x7⟩
end Go.Proofs.YtflmllablfjfeaaDoor
