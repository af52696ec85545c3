import Derived.Test.YtflmllablfjfeaaDoorFrg
import Derived.Test.YtflmllablfjfeaaDoorEai
namespace Go.Proofs.YtflmllablfjfeaaDoor
open Go.RowKit Go.HK Go.FR Go.HRB Lib
set_option linter.unusedVariables false
set_option linter.unusedSimpArgs false
set_option linter.unusedSectionVars false
attribute [local go_sem] Oper.semAt_some wide_fn asked_wide wide_depth
theorem own_slice {w:World} {b e size n:Nat} {v:Value} {xs:List Value} (h:w.ownsRow b e size v n xs):∃ ad c,v = .slice ad n c:=by
 rcases h.2 with ⟨h0,h1⟩ | ⟨g,cap,cur,rfl,_⟩
 ·subst h1; exact ⟨none,0,h0⟩
 ·exact ⟨_,_,rfl⟩
theorem powC_le (b n:Nat):powC b n <= 16385:=by unfold powC; exact Nat.min_le_right _ _
def waysR (force:Bool) (n names:Nat) (rel:List Nat):Nat:=powC (truthsK force rel (2 ^ n)).length names
def sumK (force:Bool) (n names:Nat) (L:List (List Nat)):Nat:=(L.map (waysR force n names)).sum
theorem sumK_on (force:Bool) (n names:Nat) (L:List (List Nat)) (x:List Nat):sumK force n names (L ++ [x]) = sumK force n names L + waysR force n names x:=by simp [sumK]
theorem persK_zero (rel:List Nat):∀ k,persK rel 0 k = true
 | 0 => rfl
 | k + 1 => by unfold persK; rw [persK_zero rel k]; simp
theorem truths_pos (force:Bool) (rel:List Nat) (n:Nat):1 <= (truthsK force rel (2 ^ n)).length:=by
 have h:0 ∈ truthsK force rel (2 ^ n):=by
  unfold truthsK
  rw [List.mem_filter]
  refine ⟨by rw [List.mem_range]; exact Nat.two_pow_pos n,?_⟩
  unfold maskOk
  rw [persK_zero]
  simp
 exact List.length_pos_of_mem h
structure CnI (w:World) (kind names n:Nat) (S:Nat) (W:World):Prop where
 hk:W.heap[w.heap.size]? = some (.cells #[.int .u8 (kind:Int)] 5 (0,0))
 hn:W.heap[w.heap.size + 1]? = some (.cells #[.int .i64 (names:Int)] 3 (0,0))
 hr:W.heap[w.heap.size + 2]? = some (.cells #[.int .i64 0] 3 (0,0))
 hs:W.heap[w.heap.size + 3]? = some (.cells #[.int .i64 (S:Int)] 3 (0,0))
 hB:Below w.heap.size w W
 hz:w.heap.size + 7 <= W.heap.size
theorem CnI.turn {w:World} {kind names n S b:Nat} {A C:World} (h:CnI w kind names n S A) (hb:b = w.heap.size + 10) (ht:Turn b (w.heap.size + 7) A C):CnI w kind names n S C where
 hk:=ht.same _ _ h.hk (by omega) (.inl (by omega))
 hn:=ht.same _ _ h.hn (by omega) (.inl (by omega))
 hr:=ht.same _ _ h.hr (by omega) (.inl (by omega))
 hs:=ht.same _ _ h.hs (by omega) (.inl (by omega))
 hB:=⟨ht.os.trans h.hB.os,ht.tape.trans h.hB.tape,ht.output.trans h.hB.output,Nat.le_trans h.hB.size ht.size,fun k hk => by
  have hlt:=Nat.lt_of_lt_of_le hk h.hB.size
  have:=ht.same k A.heap[k] (Array.getElem?_eq_getElem hlt) (by omega) (.inl (by omega))
  rw [this,<- Array.getElem?_eq_getElem hlt]
  exact h.hB.block k hk⟩
 hz:=Nat.le_trans h.hz ht.size
def CnS (w:World) (kind names n:Nat) (pre:List (List Nat)) (W:World):Prop:=sumK (decide (kind = 3)) n names pre <= 16384 /\ CnI w kind names n (sumK (decide (kind = 3)) n names pre) W
def CnX (w:World) (kind names n:Nat) (c:Code) (pre:List (List Nat)) (W:World):Prop:=c = .ret /\ 16384 < sumK (decide (kind = 3)) n names pre /\ W.heap[w.heap.size + 2]? = some (.cells #[.int .i64 16385] 3 (0,0)) /\ Below w.heap.size w W /\ w.heap.size + 7 <= W.heap.size
def CnSafe (w:World) (W:World) (k:Nat):Prop:=k < W.heap.size /\ k ≠ w.heap.size + 2 /\ k ≠ w.heap.size + 3
def CnAx (w:World) (b n kind mask names:Nat) (x:List Nat) (a':Act) (W:World):Prop :=
 x.length = n /\ FrOk x /\ RowB b W x /\ a' = { tmps:=#[.int .u8 (kind:Int),.int .u8 (mask:Int),.int .i64 (names:Int),.int .i64 (n:Int),.pointer (some ⟨w.heap.size,0,none⟩),undef,.pointer (some ⟨w.heap.size + 1,0,none⟩),undef,.pointer (some ⟨w.heap.size + 2,0,none⟩),.pointer (some ⟨w.heap.size + 3,0,none⟩),.slice (some ⟨b,0,none⟩) n n,.int .u8 (kind:Int),.int .u8 (mask:Int),.int .i64 (n:Int),.func (.func 73) #[] #[.pointer (some ⟨w.heap.size + 6,0,none⟩),.pointer (some ⟨w.heap.size + 4,0,none⟩),.pointer (some ⟨w.heap.size + 5,0,none⟩)],.slice (some ⟨b,0,none⟩) n n,undef,undef,undef,undef,undef,undef,undef,undef,undef,undef,undef],defers:=[] }
def countS (force:Bool) (mask names n:Nat):Nat:=min (sumK force n names (relsL force mask n)) 16385
set_option maxRecDepth 100000 in
set_option maxHeartbeats 4000000 in
theorem count_aux (k:Nat) (hk4:4 <= k) (wb:World) (kind mask names n:Nat) (hkd:kind < 256) (hmask:mask < 256) (h4:n <= 4) (hnm:names < 9223372036854775808) :
  CallsIn Fence.wide k Tryd.prog 57 #[.int .u8 (kind:Int),.int .u8 (mask:Int),.int .i64 (names:Int),.int .i64 (n:Int)] wb (RetN wb (countS (decide (kind = 3)) mask names n)):=by
 have hrl:=fun W => relations_call W kind mask n
 refine callsIn_of_wp_marks Tryd.func57 rfl trivial ?_ rfl
 simp only [Tryd.ntmps57,List.size_toArray,List.length_cons,List.length_nil,Nat.reduceAdd,Nat.reduceSub,Array.replicate_succ,Array.replicate_zero,List.push_toArray,List.append_toArray,List.nil_append,List.cons_append]
 gi_wp2_with (gi_at_call 58; refine (callsIn_wide.2 (hrl _)).mono ?_; rintro e w' ⟨rfl,rfl⟩)
 obtain ⟨w0,hw0⟩:∃ w0,w0 = (((((((wb.alloc (.cells #[.int .u8 (kind:Int)] 5)).alloc (.cells #[.int .i64 (names:Int)] 3)).alloc (.cells #[.int .i64 0] 3)).alloc (.cells #[.int .i64 0] 3)).alloc (.cells #[.int .u8 (kind:Int)] 5)).alloc (.cells #[.int .u8 (mask:Int)] 5)).alloc (.cells #[.int .i64 (n:Int)] 3)):=⟨_,rfl⟩
 have hb0:Below wb.heap.size wb w0:=by
  rw [hw0]; exact ((((((((Below.refl _ wb).alloc (Nat.le_refl _) _).alloc (by simp) _).alloc (by simp; omega) _).alloc (by simp; omega) _).alloc (by simp; omega) _).alloc (by simp; omega) _).alloc (by simp; omega) _)
 have hz0:w0.heap.size = wb.heap.size + 7:=by rw [hw0]; simp
 have v0:w0.heap[wb.heap.size]? = some (.cells #[.int .u8 (kind:Int)] 5 (0,0)):=by
  rw [hw0]; iterate 6 (refine HK.blk_alloc ?_ _)
  exact HK.blk_new _ _
 have v1:w0.heap[wb.heap.size + 1]? = some (.cells #[.int .i64 (names:Int)] 3 (0,0)):=by
  rw [hw0]; iterate 5 (refine HK.blk_alloc ?_ _)
  have:=HK.blk_new (wb.alloc (.cells #[.int .u8 (kind:Int)] 5)) (.cells #[.int .i64 (names:Int)] 3)
  simpa using this
 have v2:w0.heap[wb.heap.size + 2]? = some (.cells #[.int .i64 0] 3 (0,0)):=by
  rw [hw0]; iterate 4 (refine HK.blk_alloc ?_ _)
  have:=HK.blk_new ((wb.alloc (.cells #[.int .u8 (kind:Int)] 5)).alloc (.cells #[.int .i64 (names:Int)] 3)) (.cells #[.int .i64 0] 3)
  simpa using this
 have v3:w0.heap[wb.heap.size + 3]? = some (.cells #[.int .i64 0] 3 (0,0)):=by
  rw [hw0]; iterate 3 (refine HK.blk_alloc ?_ _)
  have:=HK.blk_new (((wb.alloc (.cells #[.int .u8 (kind:Int)] 5)).alloc (.cells #[.int .i64 (names:Int)] 3)).alloc (.cells #[.int .i64 0] 3)) (.cells #[.int .i64 0] 3)
  simpa using this
 have v4:w0.heap[wb.heap.size + 4]? = some (.cells #[.int .u8 (kind:Int)] 5 (0,0)):=by
  rw [hw0]; iterate 2 (refine HK.blk_alloc ?_ _)
  have:=HK.blk_new ((((wb.alloc (.cells #[.int .u8 (kind:Int)] 5)).alloc (.cells #[.int .i64 (names:Int)] 3)).alloc (.cells #[.int .i64 0] 3)).alloc (.cells #[.int .i64 0] 3)) (.cells #[.int .u8 (kind:Int)] 5)
  simpa using this
 have v5:w0.heap[wb.heap.size + 5]? = some (.cells #[.int .u8 (mask:Int)] 5 (0,0)):=by
  rw [hw0]; refine HK.blk_alloc ?_ _
  have:=HK.blk_new (((((wb.alloc (.cells #[.int .u8 (kind:Int)] 5)).alloc (.cells #[.int .i64 (names:Int)] 3)).alloc (.cells #[.int .i64 0] 3)).alloc (.cells #[.int .i64 0] 3)).alloc (.cells #[.int .u8 (kind:Int)] 5)) (.cells #[.int .u8 (mask:Int)] 5)
  simpa using this
 have v6:w0.heap[wb.heap.size + 6]? = some (.cells #[.int .i64 (n:Int)] 3 (0,0)):=by
  rw [hw0]
  have:=HK.blk_new ((((((wb.alloc (.cells #[.int .u8 (kind:Int)] 5)).alloc (.cells #[.int .i64 (names:Int)] 3)).alloc (.cells #[.int .i64 0] 3)).alloc (.cells #[.int .i64 0] 3)).alloc (.cells #[.int .u8 (kind:Int)] 5)).alloc (.cells #[.int .u8 (mask:Int)] 5)) (.cells #[.int .i64 (n:Int)] 3)
  simpa using this
 have hI0:CnS wb kind names n [] w0:=⟨by simp [sumK],v0,v1,v2,by simpa [sumK] using v3,hb0,by omega⟩
 obtain ⟨b,hb⟩:∃ b,b = w0.heap.size + 3:=⟨_,rfl⟩
 have hb10:b = wb.heap.size + 10:=by omega
 have hseq:=relations_seq (k - 1) w0 (wb.heap.size + 6) (wb.heap.size + 4) (wb.heap.size + 5) n kind mask hmask h4 v6 v4 v5
 rw [<- hb] at hseq
 rw [<- hw0]
 refine range_b (n:=k) rfl (by omega) (gf:=73) (lb:=#[.pointer (some ⟨wb.heap.size + 6,0,none⟩),.pointer (some ⟨wb.heap.size + 4,0,none⟩),.pointer (some ⟨wb.heap.size + 5,0,none⟩)]) rfl trivial (enters_of Tryd.func73 (by kernel_rfl) rfl)
  hb hseq (fun _ => rfl)
  (CnS wb kind names n) (CnX wb kind names n)
  (fun s A C h ht => by rw [hz0] at ht; exact ⟨h.1,h.2.turn hb10 ht⟩) (fun c s A C h ht => by
   rw [hz0] at ht
   obtain ⟨h1,h2,h3,h4,h5⟩:=h
   exact ⟨h1,h2,ht.same _ _ h3 (by omega) (.inl (by omega)),⟨ht.os.trans h4.os,ht.tape.trans h4.tape,ht.output.trans h4.output,Nat.le_trans h4.size ht.size,fun k hk => by
    have hlt:=Nat.lt_of_lt_of_le hk h4.size
    have:=ht.same k A.heap[k] (Array.getElem?_eq_getElem hlt) (by omega) (.inl (by omega))
    rw [this,<- Array.getElem?_eq_getElem hlt]
    exact h4.block k hk⟩,Nat.le_trans h5 ht.size⟩) hI0
  (CnSafe wb) (fun j hj => ⟨by rcases hj with h | h | h <;> omega,by rcases hj with h | h | h <;> omega,by rcases hj with h | h | h <;> omega⟩)
  (fun _ _ _ _ h => h.1) (fun _ A C j _ ht h => ⟨Nat.lt_of_lt_of_le h.1 ht.size,h.2⟩) (fun _ A C j hi _ h1 h2 => by have:=hi.2.hz; exact ⟨h2,by omega,by omega⟩)
  (CnAx wb b n kind mask names) (fun x a' A C h ht => ⟨h.1,h.2.1,ht.same _ _ h.2.2.1 (.inr rfl),h.2.2.2⟩) ?assign ?body ?done ?stop
 case assign =>
  intro l pre x W R hI hT hR
  have HT:=hid hT
  have HI:=hid hI
  clear hT hI hw0 hI0 hseq v0 v1 v2 v3 v4 v5 v6 hb hb10
  unfold encR
  gi_wp2
  exact hR _ _ (KeepsFrom.refl _ _) ⟨Nat.le_refl _,fun k hk _ => ⟨hk,rfl⟩⟩ HI.out ⟨HT.out.1,HT.out.2.1,HT.out.2.2,rfl⟩
 case body =>
  intro l pre xr a' wr hI hax hpl
  obtain ⟨hlen,hok,hrow,rfl⟩:=hax
  obtain ⟨S,hS⟩:∃ S,S = sumK (decide (kind = 3)) n names pre:=⟨_,rfl⟩
  obtain ⟨hSle,hI⟩:=hI
  rw [<- hS] at hSle hI
  obtain ⟨T,hT⟩:∃ T,T = (truthsK (decide (kind = 3)) xr (2 ^ n)).length:=⟨_,rfl⟩
  have hT1:1 <= T:=by rw [hT]; exact truths_pos _ _ _
  have hT16:T <= 16:=by rw [hT]; exact Nat.le_trans (truthsK_len _ _ _) (pow_le4 h4)
  obtain ⟨p,hp⟩:∃ p,p = powC T names:=⟨_,rfl⟩
  have hp2:p <= 16385:=by rw [hp]; exact powC_le _ _
  obtain ⟨q,hq⟩:∃ q,q = S + p:=⟨_,rfl⟩
  have hsum:sumK (decide (kind = 3)) n names (pre ++ [xr]) = q:=by rw [sumK_on,<- hS,hq,hp,hT,waysR]
  have HTR:Hid (∀ W,HK.Frm (fun j => j = wb.heap.size + 3) wr W -> Calls Tryd.prog 59 #[.int .u8 (kind:Int),.slice (some ⟨b,0,none⟩) n n] W (RetRow W (truthsK (decide (kind = 3)) xr (2 ^ n)))):=hid fun W hW => truths_call W b 0 n n xr (RowB.isR (show RowB b W xr from HK.Frm.heap hW hrow (by omega))) hlen hok kind hkd
  have HPW:Hid (∀ W,Calls Tryd.prog 60 #[.int .i64 (T:Int),.int .i64 (names:Int)] W fun e w' => e = .returned (.int .i64 (p:Int)) /\ w' = W):=hid fun W => by rw [hp]; exact power_call W T names hT1 hT16 hnm
  have HT:Hid ((truthsK (decide (kind = 3)) xr (2 ^ n)).length = T):=hid hT.symm
  have HKD:=hid hI.hk
  have HNM:=hid hI.hn
  have HSM:=hid hI.hs
  have HRS:=hid hI.hr
  have HBE:=hid hI.hB
  have HZ:=hid hI.hz
  have HSUM:=hid hsum
  have HQ:=hid hq
  have HW0:=hid hz0
  have hq2:q <= 32769:=by rw [hq]; exact Nat.add_le_add hSle hp2
  have ad6:IntKind.i64.wrap ((S:Int) + (p:Int)) = (q:Int):=by rw [hq,Int.natCast_add]; exact IntWalk.i64_in _ (by omega)
  have ad7:wrap64 ((S:Int) + (p:Int)) = (q:Int):=(IntWalk.i64_left _).symm.trans ad6
  clear hI hS hT hp hq hsum hw0 hI0 hseq v0 v1 v2 v3 v4 v5 v6 hb hz0 hb0 hrl hrow hlen hok
  have HB10:=hid hb10
  clear hb10
  gi_step
  gi_step
  refine Go.RE.wpIn_region_each [16,17,18,19,20,21,22,23] (fun L x W => (HK.Frm (fun j => j = wb.heap.size + 3) wr W /\ (L 8 = false -> W.heap[wb.heap.size + 3]? = some (.cells #[.int .i64 (S:Int)] 3 (0,0)))) /\ (L 0 = true -> x 16 = .int .i64 (S:Int)) /\ (L 1 = true -> x 17 = .int .u8 (kind:Int)) /\ (L 2 = true -> x 18 = .slice (some ⟨b,0,none⟩) n n) /\ (L 3 = true -> L 1 = true /\ L 2 = true /\ ∃ ad c,x 19 = .slice ad T c) /\ (L 4 = true -> L 3 = true /\ x 20 = .int .i64 (T:Int)) /\ (L 5 = true -> x 21 = .int .i64 (names:Int)) /\ (L 6 = true -> L 4 = true /\ L 5 = true /\ x 22 = .int .i64 (p:Int)) /\ (L 7 = true -> L 0 = true /\ L 6 = true /\ x 23 = .int .i64 (q:Int)) /\ (L 8 = true -> L 7 = true /\ W.heap[wb.heap.size + 3]? = some (.cells #[.int .i64 (q:Int)] 3 (0,0)))) (by kernel_rfl) (by kernel_rfl) ?_ (by kernel_rfl) (by kernel_rfl) ?_ ((Go.RE.Each.cons ?_ (Go.RE.Each.cons ?_ (Go.RE.Each.cons ?_ (Go.RE.Each.cons ?_ (Go.RE.Each.cons ?_ (Go.RE.Each.cons ?_ (Go.RE.Each.cons ?_ (Go.RE.Each.cons ?_ (Go.RE.Each.cons ?_ Go.RE.Each.nil)))))))))) ?_
  ·rintro ⟨a,w,h⟩; exact h
  ·exact fun x => ⟨⟨⟨rfl,rfl,rfl,Nat.le_refl _,fun _ _ _ => rfl⟩,fun _ => HSM.out⟩,fun h => (by cases h),fun h => (by cases h),fun h => (by cases h),fun h => (by cases h),fun h => (by cases h),fun h => (by cases h),fun h => (by cases h),fun h => (by cases h),fun h => (by cases h)⟩
  ·intro L x a w K hL hd hf hx hΦ hK
   obtain ⟨hI,f0,f1,f2,f3,f4,f5,f6,f7,f8⟩:=hΦ
   have e9:a.tmps[9]? = some (.pointer (some ⟨wb.heap.size + 3,0,none⟩)):=hf 9 (of_decide_eq_true (by kernel_rfl))
   clear hf hx hd
   have hL8:L 8 = false:=by rcases e:L 8 with _ | _; rfl; exact absurd (f7 (f8 e).1).1 (by rw [hL]; decide)
   have c:=HK.blk_cell (hI.2 hL8) 0
   go_simp
   refine hK _ _ ?_
   exact ⟨hI,fun _ => rfl,fun h => f1 h,fun h => f2 h,fun h => f3 h,fun h => f4 h,fun h => f5 h,fun h => f6 h,fun h => absurd (f7 h).1 (by rw [hL]; decide),fun h => f8 h⟩
  ·intro L x a w K hL hd hf hx hΦ hK
   obtain ⟨hI,f0,f1,f2,f3,f4,f5,f6,f7,f8⟩:=hΦ
   have e4:a.tmps[4]? = some (.pointer (some ⟨wb.heap.size,0,none⟩)):=hf 4 (of_decide_eq_true (by kernel_rfl))
   clear hf hx hd
   have c:=HK.blk_cell (HK.Frm.heap hI.1 HKD.out (by omega)) 0
   go_simp
   refine hK _ _ ?_
   exact ⟨hI,fun h => f0 h,fun _ => rfl,fun h => f2 h,fun h => absurd (f3 h).1 (by rw [hL]; decide),fun h => f4 h,fun h => f5 h,fun h => f6 h,fun h => f7 h,fun h => f8 h⟩
  ·intro L x a w K hL hd hf hx hΦ hK
   obtain ⟨hI,f0,f1,f2,f3,f4,f5,f6,f7,f8⟩:=hΦ
   have e10:a.tmps[10]? = some (.slice (some ⟨b,0,none⟩) n n):=hf 10 (of_decide_eq_true (by kernel_rfl))
   clear hf hx hd
   go_simp
   refine hK _ _ ?_
   exact ⟨hI,fun h => f0 h,fun h => f1 h,fun _ => rfl,fun h => absurd (f3 h).2.1 (by rw [hL]; decide),fun h => f4 h,fun h => f5 h,fun h => f6 h,fun h => f7 h,fun h => f8 h⟩
  ·intro L x a w K hL hd hf hx hΦ hK
   obtain ⟨hI,f0,f1,f2,f3,f4,f5,f6,f7,f8⟩:=hΦ
   have d1:=f1 (hd 1 (by kernel_rfl))
   have e17:a.tmps[17]? = some (x 17):=hx 1 _ 17 rfl rfl (hd 1 (by kernel_rfl))
   have d2:=f2 (hd 2 (by kernel_rfl))
   have e18:a.tmps[18]? = some (x 18):=hx 2 _ 18 rfl rfl (hd 2 (by kernel_rfl))
   have l1:=hd 1 (by kernel_rfl)
   have l2:=hd 2 (by kernel_rfl)
   have hL8:L 8 = false:=by rcases e:L 8 with _ | _; rfl; exact absurd (f4 (f6 (f7 (f8 e).1).2.1).1).1 (by rw [hL]; decide)
   clear hf hx hd
   rw [d1] at e17
   rw [d2] at e18
   go_simp
   go_at_call 59
   with_reducible refine (HTR.out _ hI.1).mono ?_
   rintro e w' ⟨v,rfl,hB8,hv⟩
   obtain ⟨ad,c,rfl⟩:=own_slice hv
   simp only
   refine hK _ _ ?_
   exact ⟨⟨hI.1.trans (HK.Frm.of_below hB8 _),fun h => (hB8.block _ (HK.blk_lt (hI.2 hL8))).trans (hI.2 hL8)⟩,fun h => f0 h,fun h => f1 h,fun h => f2 h,fun _ => ⟨l1,l2,ad,c,by rw [HT.out]; rfl⟩,fun h => absurd (f4 h).1 (by rw [hL]; decide),fun h => f5 h,fun h => f6 h,fun h => f7 h,fun h => absurd (show L 8 = true from h) (by rw [hL8]; decide)⟩
  ·intro L x a w K hL hd hf hx hΦ hK
   obtain ⟨hI,f0,f1,f2,f3,f4,f5,f6,f7,f8⟩:=hΦ
   have d3:=f3 (hd 3 (by kernel_rfl))
   have e19:a.tmps[19]? = some (x 19):=hx 3 _ 19 rfl rfl (hd 3 (by kernel_rfl))
   have l3:=hd 3 (by kernel_rfl)
   clear hf hx hd
   obtain ⟨_,_,ad,c,hv⟩:=d3
   rw [hv] at e19
   go_simp
   refine hK _ _ ?_
   exact ⟨hI,fun h => f0 h,fun h => f1 h,fun h => f2 h,fun h => f3 h,fun _ => ⟨l3,rfl⟩,fun h => f5 h,fun h => absurd (f6 h).1 (by rw [hL]; decide),fun h => f7 h,fun h => f8 h⟩
  ·intro L x a w K hL hd hf hx hΦ hK
   obtain ⟨hI,f0,f1,f2,f3,f4,f5,f6,f7,f8⟩:=hΦ
   have e6:a.tmps[6]? = some (.pointer (some ⟨wb.heap.size + 1,0,none⟩)):=hf 6 (of_decide_eq_true (by kernel_rfl))
   clear hf hx hd
   have c:=HK.blk_cell (HK.Frm.heap hI.1 HNM.out (by omega)) 0
   go_simp
   refine hK _ _ ?_
   exact ⟨hI,fun h => f0 h,fun h => f1 h,fun h => f2 h,fun h => f3 h,fun h => f4 h,fun _ => rfl,fun h => absurd (f6 h).2.1 (by rw [hL]; decide),fun h => f7 h,fun h => f8 h⟩
  ·intro L x a w K hL hd hf hx hΦ hK
   obtain ⟨hI,f0,f1,f2,f3,f4,f5,f6,f7,f8⟩:=hΦ
   have d4:=f4 (hd 4 (by kernel_rfl))
   have e20:a.tmps[20]? = some (x 20):=hx 4 _ 20 rfl rfl (hd 4 (by kernel_rfl))
   have d5:=f5 (hd 5 (by kernel_rfl))
   have e21:a.tmps[21]? = some (x 21):=hx 5 _ 21 rfl rfl (hd 5 (by kernel_rfl))
   have l4:=hd 4 (by kernel_rfl)
   have l5:=hd 5 (by kernel_rfl)
   clear hf hx hd
   rw [d4.2] at e20
   rw [d5] at e21
   go_simp
   go_at_call 60
   refine (HPW.out _).mono ?_
   rintro e w' ⟨rfl,hw'⟩
   have hw':=hw'.symm
   subst hw'
   simp only
   refine hK _ _ ?_
   exact ⟨hI,fun h => f0 h,fun h => f1 h,fun h => f2 h,fun h => f3 h,fun h => f4 h,fun h => f5 h,fun _ => ⟨l4,l5,rfl⟩,fun h => absurd (f7 h).2.1 (by rw [hL]; decide),fun h => f8 h⟩
  ·intro L x a w K hL hd hf hx hΦ hK
   obtain ⟨hI,f0,f1,f2,f3,f4,f5,f6,f7,f8⟩:=hΦ
   have d0:=f0 (hd 0 (by kernel_rfl))
   have e16:a.tmps[16]? = some (x 16):=hx 0 _ 16 rfl rfl (hd 0 (by kernel_rfl))
   have d6:=f6 (hd 6 (by kernel_rfl))
   have e22:a.tmps[22]? = some (x 22):=hx 6 _ 22 rfl rfl (hd 6 (by kernel_rfl))
   have l0:=hd 0 (by kernel_rfl)
   have l6:=hd 6 (by kernel_rfl)
   clear hf hx hd
   rw [d0] at e16
   rw [d6.2.2] at e22
   go_simp
   refine hK _ _ ?_
   exact ⟨hI,fun h => f0 h,fun h => f1 h,fun h => f2 h,fun h => f3 h,fun h => f4 h,fun h => f5 h,fun h => f6 h,fun _ => ⟨l0,l6,rfl⟩,fun h => absurd (f8 h).1 (by rw [hL]; decide)⟩
  ·intro L x a w K hL hd hf hx hΦ hK
   obtain ⟨hI,f0,f1,f2,f3,f4,f5,f6,f7,f8⟩:=hΦ
   have d7:=f7 (hd 7 (by kernel_rfl))
   have e23:a.tmps[23]? = some (x 23):=hx 7 _ 23 rfl rfl (hd 7 (by kernel_rfl))
   have e9:a.tmps[9]? = some (.pointer (some ⟨wb.heap.size + 3,0,none⟩)):=hf 9 (of_decide_eq_true (by kernel_rfl))
   have l7:=hd 7 (by kernel_rfl)
   clear hf hx hd
   rw [d7.2.2] at e23
   have c:=HK.blk_cell (hI.2 hL) 0
   have cf:=HK.blk_frozen (hI.2 hL) 0
   go_simp
   refine hK undef _ ?_
   exact ⟨⟨hI.1.setCell (p:=⟨wb.heap.size + 3,0,none⟩) (.inl rfl) _,fun h => by cases h⟩,fun h => f0 h,fun h => f1 h,fun h => f2 h,fun h => f3 h,fun h => f4 h,fun h => f5 h,fun h => f6 h,fun h => f7 h,fun _ => ⟨l7,by have:=HK.blk_set (hI.2 hL) 0 (.int .i64 (q:Int)); simpa using this⟩⟩
  ·rintro x W ⟨hI,f0,f1,f2,f3,f4,f5,f6,f7,f8⟩
   obtain ⟨_,hSq⟩:=f8 (by kernel_rfl)
   obtain ⟨hfr,_⟩:=hI
   have hB2:Below wb.heap.size wb W:=⟨hfr.os.trans HBE.out.os,hfr.tape.trans HBE.out.tape,hfr.output.trans HBE.out.output,Nat.le_trans HBE.out.size hfr.size,fun j hj => (hfr.block j (Nat.lt_of_lt_of_le hj HBE.out.size) (by omega)).trans (HBE.out.block j hj)⟩
   have hkf:KeepsFrom w0.heap.size wr W:=⟨hfr.size,fun j o hj ho _ => HK.Frm.heap hfr ho (by have:=HW0.out; omega)⟩
   have hres:=HK.Frm.heap hfr HRS.out (by omega)
   have c3:=HK.blk_cell hSq 0
   have c2:=HK.blk_cell hres 0
   have ff2:=HK.blk_frozen hres 0
   have HFR:=hid hfr
   have HSQ:=hid hSq
   have HB2:=hid hB2
   have HKF:=hid hkf
   have HRES:=hid hres
   clear hfr hSq hB2 hkf hres f0 f1 f2 f3 f4 f5 f6 f7 f8 HTR HPW ad6 ad7
   change Exit.then _ _ Exit.normal { tmps:=#[.int .u8 (kind:Int),.int .u8 (mask:Int),.int .i64 (names:Int),.int .i64 (n:Int),.pointer (some ⟨wb.heap.size,0,none⟩),undef,.pointer (some ⟨wb.heap.size + 1,0,none⟩),undef,.pointer (some ⟨wb.heap.size + 2,0,none⟩),.pointer (some ⟨wb.heap.size + 3,0,none⟩),.slice (some ⟨b,0,none⟩) n n,.int .u8 (kind:Int),.int .u8 (mask:Int),.int .i64 (n:Int),.func (.func 73) #[] #[.pointer (some ⟨wb.heap.size + 6,0,none⟩),.pointer (some ⟨wb.heap.size + 4,0,none⟩),.pointer (some ⟨wb.heap.size + 5,0,none⟩)],.slice (some ⟨b,0,none⟩) n n,x 16,x 17,x 18,x 19,x 20,x 21,x 22,x 23,undef,undef,undef],defers:=[] } W
   simp only [Exit.then]
   by_cases hbig:(16384:Int) < (q:Int)
   ·gi_wp2
    have hr2:=HK.blk_set HRES.out 0 (.int .i64 (16385:Int))
    refine ⟨HKF.out.trans ((KeepsOthers.setCell W ⟨wb.heap.size + 2,0,none⟩ _).from _),rfl,by rw [HSUM.out]; omega,by simpa using hr2,HB2.out.setCell (p:=⟨wb.heap.size + 2,0,none⟩) (by simp) _,?_⟩
    have h1:=HFR.out.size
    have h2:=HZ.out
    show wb.heap.size + 7 <= (W.setCell _ _).heap.size
    simp
    omega
   ·gi_wp2
    have h1:=HFR.out.size
    have h2:=HZ.out
    refine ⟨HKF.out,⟨HFR.out.size,fun j hj hne => ⟨⟨Nat.lt_of_lt_of_le hj.1 HFR.out.size,hj.2⟩,HFR.out.block j hj.1 hj.2.2⟩⟩,by rw [HSUM.out]; omega,?_⟩
    rw [HSUM.out]
    exact ⟨HK.Frm.heap HFR.out HKD.out (by omega),HK.Frm.heap HFR.out HNM.out (by omega),HRES.out,HSQ.out,HB2.out,by omega⟩
 case done =>
  rintro D ys W hD rfl hI hK
  obtain ⟨hle,hI⟩:=hI
  obtain ⟨S,hS⟩:∃ S,S = sumK (decide (kind = 3)) n names (relsL (decide (kind = 3)) mask n):=⟨_,rfl⟩
  rw [<- hS] at hle hI
  have HC:Hid (countS (decide (kind = 3)) mask names n = S):=hid (by unfold countS; rw [<- hS]; omega)
  have c3:=HK.blk_cell hI.hs 0
  have c2:=HK.blk_cell hI.hr 0
  have ff2:=HK.blk_frozen hI.hr 0
  have HI:=hid hI
  have HKD:=hid hK
  have HD:=hid hD
  have HSZ:=hid hz0
  clear hI hK hD hw0 hz0 hb0 hI0 hseq v0 v1 v2 v3 v4 v5 v6 hb hb10 hrl hS hle
  gi_wp2
  have hK2:=(KeepsOthers.setCell W ⟨wb.heap.size + 2,0,none⟩ (.int .i64 (S:Int))).same D _ HKD.out rfl
  refine ⟨by simp,.inl ⟨_,_,rfl,run_takeDeferred hK2,?_⟩⟩
  have hDn:wb.heap.size + 2 < D:=by have:=HD.out; have:=HSZ.out; omega
  have t2:((W.setCell ⟨wb.heap.size + 2,0,none⟩ (.int .i64 (S:Int))).putObj D (.deferred none)).cell? ⟨wb.heap.size + 2,0,none⟩ = some (.int .i64 (S:Int)):=by
   have h3:=HK.blk_set HI.out.hr 0 (.int .i64 (S:Int))
   exact HK.blk_cell ((World.putObj_heap_other (by omega)).trans h3) 0
  refine ⟨.int .i64 (S:Int),by simp [results,Tryd.results57,go_sem,t2],by rw [HC.out],?_⟩
  exact (HI.out.hB.setCell (p:=⟨wb.heap.size + 2,0,none⟩) (by simp) _).grown (grownBy_putObj' _ D _) (by have:=HI.out.hB.size; simp; omega) (fun k e => by cases e; omega)
 case stop =>
  rintro D c pre W hD hpre ⟨rfl,hbig,hres,hB,hz⟩ hK
  have HC:Hid (countS (decide (kind = 3)) mask names n = 16385):=hid (by
   obtain ⟨r,hr⟩:=hpre
   unfold countS
   rw [<- hr]
   have:sumK (decide (kind = 3)) n names (pre ++ r) = sumK (decide (kind = 3)) n names pre + sumK (decide (kind = 3)) n names r:=by simp [sumK]
   omega)
  have HRES:=hid hres
  have HB:=hid hB
  have HKD:=hid hK
  have HD:=hid hD
  have HSZ:=hid hz0
  clear hres hB hz hbig hpre hK hD hw0 hz0 hb0 hI0 hseq v0 v1 v2 v3 v4 v5 v6 hb hb10 hrl
  gi_wp2
  refine ⟨by simp,.inl ⟨_,_,rfl,run_takeDeferred HKD.out,?_⟩⟩
  have hDn:wb.heap.size + 2 < D:=by have:=HD.out; have:=HSZ.out; omega
  have t2:(W.putObj D (.deferred none)).cell? ⟨wb.heap.size + 2,0,none⟩ = some (.int .i64 16385):=HK.blk_cell ((World.putObj_heap_other (by omega)).trans HRES.out) 0
  refine ⟨.int .i64 16385,by simp [results,Tryd.results57,go_sem,t2],by rw [HC.out]; rfl,?_⟩
  exact HB.out.grown (grownBy_putObj' W D _) (by have:=HB.out.size; omega) (fun k e => by cases e; omega)
theorem count_call (w:World) (kind mask names n:Nat) (hkd:kind < 256) (hmask:mask < 256) (h4:n <= 4) (hnm:names < 9223372036854775808) :
  Calls Tryd.prog 57 #[.int .u8 (kind:Int),.int .u8 (mask:Int),.int .i64 (names:Int),.int .i64 (n:Int)] w (RetN w (countS (decide (kind = 3)) mask names n)) :=
 callsIn_wide.1 (count_aux 4 (by omega) w kind mask names n hkd hmask h4 hnm)
end Go.Proofs.YtflmllablfjfeaaDoor
