import Derived.Test.YtflmllablfjfeaaDoorFrv
namespace Go.Proofs.YtflmllablfjfeaaDoor
open Go.RowKit Go.HK Go.FR Lib
set_option linter.unusedVariables false
set_option linter.unusedSimpArgs false
set_option linter.unusedSectionVars false
theorem row_cell {W:World} {b t:Nat} {xs:List Nat} (h:W.heap[b]? = some (.cells (ints xs).toArray t (0,0))) {i x:Nat} (hx:xs[i]? = some x):W.cell? ⟨b,i,none⟩ = some (.int .i64 (x:Int)):=by
 rw [HK.blk_cell h,List.getElem?_toArray,ints,List.getElem?_map,hx]; rfl
theorem row_set {W:World} {b t:Nat} {xs:List Nat} (h:W.heap[b]? = some (.cells (ints xs).toArray t (0,0))) (i v:Nat):(W.setCell ⟨b,i,none⟩ (.int .i64 (v:Int))).heap[b]? = some (.cells (ints (xs.set i v)).toArray t (0,0)):=by
 have:=HK.blk_set h i (.int .i64 (v:Int))
 rw [this]
 simp [ints,List.map_set]
structure FoI (w:World) (F:Nat -> Nat) (n:Nat) (rel:List Nat) (W:World):Prop where
 hl:W.heap[w.heap.size]? = some (.cells (sevenV F) 22 (0,0))
 hr:W.heap[w.heap.size + 1]? = some (.cells #[.int .u8 0,.int .i64 0,.slice none 0 0,.int .i64 0,.slice none 0 0,.slice none 0 0,.slice none 0 0] 30 (0,0))
 hg:W.heap[w.heap.size + 2]? = some (.cells (ints rel).toArray 3 (0,0))
 hm:W.heap[w.heap.size + 3]? = some (.cells #[.int .u8 3,.int .i64 (n:Int),.slice (some ⟨w.heap.size + 2,0,none⟩) n n,.int .i64 0,.slice none 0 0,.slice none 0 0,.slice none 0 0] 30 (0,0))
 bl:Below w.heap.size w W
 len:rel.length = n
 lt:∀ i,rel.getD i 0 < 16
theorem FoI.drew {w:World} {F:Nat -> Nat} {n:Nat} {rel:List Nat} {W:World} (h:FoI w F n rel W):FoI w F n rel W.drew:=⟨h.hl,h.hr,h.hg,h.hm,bl_dr h.bl,h.len,h.lt⟩
theorem getD_set9 (rel:List Nat) (i v j:Nat):(rel.set i v).getD j 0 = if i = j /\ i < rel.length then v else rel.getD j 0:=by
 rw [List.getD_eq_getElem?_getD,List.getD_eq_getElem?_getD,List.getElem?_set]
 by_cases h:i = j
 ·subst h
  by_cases h2:i < rel.length
  ·simp [h2]
  ·simp [h2]
 ·simp [h]
theorem FoI.set {w:World} {F:Nat -> Nat} {n:Nat} {rel:List Nat} {W:World} (h:FoI w F n rel W) (i v:Nat) (hv:v < 16):FoI w F n (rel.set i v) (W.setCell ⟨w.heap.size + 2,i,none⟩ (.int .i64 (v:Int))) :=
 ⟨blk_set_other h.hl (p:=⟨w.heap.size + 2,i,none⟩) (by simp) _,blk_set_other h.hr (p:=⟨w.heap.size + 2,i,none⟩) (by simp) _,row_set h.hg i v,blk_set_other h.hm (p:=⟨w.heap.size + 2,i,none⟩) (by simp) _,
  h.bl.setCell (p:=⟨w.heap.size + 2,i,none⟩) (by simp) _,by rw [List.length_set]; exact h.len,fun j => by
   rw [getD_set9]
   split
   ·exact hv
   ·exact h.lt j⟩
theorem FoI.other {w:World} {F:Nat -> Nat} {n:Nat} {rel:List Nat} {W:World} (h:FoI w F n rel W) {p:Addr} (hp:w.heap.size + 4 <= p.block) (v:Value):FoI w F n rel (W.setCell p v) :=
 ⟨blk_set_other h.hl (by omega) _,blk_set_other h.hr (by omega) _,blk_set_other h.hg (by omega) _,blk_set_other h.hm (by omega) _,h.bl.setCell (by omega) _,h.len,h.lt⟩
theorem FoI.alloc {w:World} {F:Nat -> Nat} {n:Nat} {rel:List Nat} {W:World} (h:FoI w F n rel W) (o:Obj):FoI w F n rel (W.alloc o) :=
 ⟨HK.blk_alloc h.hl o,HK.blk_alloc h.hr o,HK.blk_alloc h.hg o,HK.blk_alloc h.hm o,h.bl.alloc h.bl.size o,h.len,h.lt⟩
theorem FoI.below {w:World} {F:Nat -> Nat} {n:Nat} {rel:List Nat} {W W':World} (h:FoI w F n rel W) (hB:Below W.heap.size W W'):FoI w F n rel W' :=
 ⟨blk_up9 hB h.hl,blk_up9 hB h.hr,blk_up9 hB h.hg,blk_up9 hB h.hm,below_tr h.bl hB,h.len,h.lt⟩
theorem FoI.cellOf {w:World} {F:Nat -> Nat} {n:Nat} {rel:List Nat} {W:World} (h:FoI w F n rel W) {i x:Nat} (hx:rel[i]? = some x):W.cell? ⟨w.heap.size + 2,i,none⟩ = some (.int .i64 (x:Int)):=row_cell h.hg hx
theorem FoI.cellAt {w:World} {F:Nat -> Nat} {n:Nat} {rel:List Nat} {W:World} (h:FoI w F n rel W) (i:Nat) (hi:i < n):W.cell? ⟨w.heap.size + 2,i,none⟩ = some (.int .i64 (rel.getD i 0:Nat)):=by
 obtain ⟨x,hx⟩:∃ x,rel[i]? = some x:=⟨_,List.getElem?_eq_getElem (by rw [h.len]; exact hi)⟩
 rw [getD_get hx]
 exact h.cellOf hx
def msK (rel:List Nat) (F:Nat -> Nat) (n k:Nat):List Nat:=[if 0 < k then upK rel (F 4) n else 0,if 1 < k then upK rel (F 5) n else 0,if 2 < k then upK rel (F 6) n else 0]
theorem msK_start (rel:List Nat) (F:Nat -> Nat) (n:Nat) {k:Nat} (h:k < 3) (f:Nat):(msK rel F n k).set k (upK rel f 0) = msK rel F n k:=by
 rcases (by omega:k = 0 ∨ k = 1 ∨ k = 2) with rfl | rfl | rfl <;> simp [msK,upK]
theorem msK_end (rel:List Nat) (F:Nat -> Nat) (n:Nat) {k:Nat} (h:k < 3):(msK rel F n k).set k (upK rel (F (4 + k)) n) = msK rel F n (k + 1):=by
 rcases (by omega:k = 0 ∨ k = 1 ∨ k = 2) with rfl | rfl | rfl <;> simp [msK]
theorem upK_16 {rel:List Nat} (h:∀ i,rel.getD i 0 < 16) (m:Nat):∀ k,upK rel m k < 16
 | 0 => by unfold upK; omega
 | k + 1 => by
  unfold upK
  split
  ·exact Nat.or_lt_two_pow (n:=4) (upK_16 h m k) (h k)
  ·exact upK_16 h m k
set_option maxRecDepth 100000 in
set_option maxHeartbeats 8000000 in
theorem forced_call (w:World) (s:Nat) (F:Nat -> Nat) (hs:s < 256) (hl:∀ i,F i < 256) :
  Calls Tryd.prog 13 #[.int .u8 (s:Int),.agg (sevenV F)] w (RetMo w 3 (1 + s % 4) (fRel (1 + s % 4) F (1 + s % 4)) [upK (fRel (1 + s % 4) F (1 + s % 4)) (F 4) (1 + s % 4),upK (fRel (1 + s % 4) F (1 + s % 4)) (F 5) (1 + s % 4),upK (fRel (1 + s % 4) F (1 + s % 4)) (F 6) (1 + s % 4)]):=by
 obtain ⟨n,hn⟩:∃ n,n = 1 + s % 4:=⟨_,rfl⟩
 rw [<- hn]
 have h4:n <= 4:=by omega
 have h1:1 <= n:=by omega
 have hsn:1 + (s:Int) % 4 = (n:Int):=by omega
 have hs0:(0:Int) <= (s:Int):=by omega
 have hs1:(s:Int) < 256:=by omega
 have HL:=hid hl
 clear hn hl hs
 show Calls Tryd.prog 13 #[.int .u8 (s:Int),.agg #[.int .u8 (F 0:Nat),.int .u8 (F 1:Nat),.int .u8 (F 2:Nat),.int .u8 (F 3:Nat),.int .u8 (F 4:Nat),.int .u8 (F 5:Nat),.int .u8 (F 6:Nat)]] w _
 obtain ⟨w1,hw1⟩:∃ w1,w1 = (w.alloc (.cells #[.int .u8 (F 0:Nat),.int .u8 (F 1:Nat),.int .u8 (F 2:Nat),.int .u8 (F 3:Nat),.int .u8 (F 4:Nat),.int .u8 (F 5:Nat),.int .u8 (F 6:Nat)] 22)).alloc (.cells #[.int .u8 0,.int .i64 0,.slice none 0 0,.int .i64 0,.slice none 0 0,.slice none 0 0,.slice none 0 0] 30):=⟨_,rfl⟩
 have hwz:w1.heap.size = w.heap.size + 2:=by rw [hw1]; simp
 have hI0:FoI w F n (fRel n F 0) ((w1.alloc (.cells (madeCells #[.int .i64 0] n) 3)).alloc (.cells #[.int .u8 3,.int .i64 (n:Int),.slice (some ⟨w.heap.size + 2,0,none⟩) n n,.int .i64 0,.slice none 0 0,.slice none 0 0,.slice none 0 0] 30)):=by
  refine ⟨?_,?_,?_,?_,?_,by simp [fRel],fun i => ?_⟩
  ·rw [hw1]; exact HK.blk_alloc (HK.blk_alloc (HK.blk_alloc (HK.blk_new _ _) _) _) _
  ·rw [hw1]
   refine HK.blk_alloc (HK.blk_alloc ?_ _) _
   have:=HK.blk_new (w.alloc (.cells #[.int .u8 (F 0:Nat),.int .u8 (F 1:Nat),.int .u8 (F 2:Nat),.int .u8 (F 3:Nat),.int .u8 (F 4:Nat),.int .u8 (F 5:Nat),.int .u8 (F 6:Nat)] 22)) (.cells #[.int .u8 0,.int .i64 0,.slice none 0 0,.int .i64 0,.slice none 0 0,.slice none 0 0,.slice none 0 0] 30)
   simpa using this
  ·refine HK.blk_alloc ?_ _
   have:=HK.blk_new w1 (.cells (madeCells #[.int .i64 0] n) 3)
   rw [hwz] at this
   rw [this,made_row]; rfl
  ·have:=HK.blk_new (w1.alloc (.cells (madeCells #[.int .i64 0] n) 3)) (.cells #[.int .u8 3,.int .i64 (n:Int),.slice (some ⟨w.heap.size + 2,0,none⟩) n n,.int .i64 0,.slice none 0 0,.slice none 0 0,.slice none 0 0] 30)
   rw [World.size_alloc,hwz] at this
   exact this
  ·rw [hw1]; exact ((((Below.refl _ w).alloc (Nat.le_refl _) _).alloc (by simp) _).alloc (by simp; omega) _).alloc (by simp; omega) _
  ·show (List.replicate n 0).getD i 0 < 16
   rw [List.getD_eq_getElem?_getD,List.getElem?_replicate]
   split <;> simp
 rw [hw1] at hI0
 have HI0:=hid hI0
 clear hI0 hw1 hwz
 have hmk:=run_make_row' (P:=Tryd.prog) 25 3 (.int .i64 0) 8 Tryd.underlying25 info3 rfl .i64 .i64 n (by omega) (by omega)
 go_enter Tryd.func13,Tryd.ntmps13
 go_upto_region 2 with (fail)
 clear hsn
 go_wp2_with (fail)
 clear hmk
 go_loopw [7] (fun i wr => ∃ k:Nat,k <= n /\ (k < n -> i = .int .i64 ((n - 1 - k:Nat):Int)) /\ (k = n -> i = .int .i64 (-1)) /\ FoI w F n (fRel n F k) wr) (fun i _ => (intOf i + 1).toNat)
 case atStart => exact ⟨0,by omega,fun _ => by congr 1; omega,fun h => by omega,HI0.out⟩
 case round =>
  obtain ⟨k,hk,hi1,hi2,hI⟩:=hrel
  by_cases hkn:k < n
  ·obtain ⟨wv,hwv⟩:∃ wv,wv = n - 1 - k:=⟨_,rfl⟩
   rw [<- hwv] at hi1
   obtain rfl:=hi1 hkn
   have hwn:wv < n:=by omega
   have HWK:Hid (n = wv + 1 + k):=hid (by omega)
   have b0:(0:Int) <= (wv:Int):=by omega
   obtain ⟨rl,hrl⟩:∃ rl,rl = fRel n F k:=⟨_,rfl⟩
   have HRL:=hid hrl
   rw [<- hrl] at hI
   have HI:=hid hI
   have HB0:Hid ((0:Int) <= (wv:Int)):=hid b0
   have HB1:Hid ((wv:Int) < (n:Int)):=hid (by omega)
   have HB2:=hid hwn
   obtain ⟨q,hq⟩:∃ q,q = 1 <<< wv:=⟨_,rfl⟩
   have HQ1:Hid (IntKind.i64.wrap ((2:Int) ^ wv) = (q:Int)):=hid (by rw [hq]; exact shl_wrap (by omega))
   have HQM:Hid (min wv 64 = wv):=hid (by omega)
   have HQ16:Hid (q < 16):=hid (by rw [hq]; exact one_shl_lt (by omega))
   have HQ:=hid hq
   have HK0:=hid hkn
   clear hi1 hi2 hwv hrl hI hq hkn hk
   go_upto_region 6 with (fail)
   refine Go.RE.wp_region_eachg [26,27,28,29,30,31] (fun L x W => ((L 6 = false -> FoI w F n rl W) /\ (L 6 = true -> FoI w F n (rl.set wv q) W) /\ W.heap[w.heap.size + 3]? = some (.cells #[.int .u8 3,.int .i64 (n:Int),.slice (some ⟨w.heap.size + 2,0,none⟩) n n,.int .i64 0,.slice none 0 0,.slice none 0 0,.slice none 0 0] 30 (0,0))) /\ (L 0 = true -> x 26 = .pointer (some ⟨w.heap.size + 3,2,none⟩)) /\ (L 1 = true -> x 27 = .slice (some ⟨w.heap.size + 2,0,none⟩) n n) /\ (L 2 = true -> x 28 = .int .i64 (wv:Int)) /\ (L 3 = true -> x 29 = .int .i64 (wv:Int)) /\ (L 4 = true -> x 30 = .int .i64 (q:Int)) /\ (L 5 = true -> x 31 = .pointer (some ⟨w.heap.size + 2,wv,none⟩)) /\ (L 6 = true -> True)) (by kernel_rfl) (by kernel_rfl) (by kernel_rfl) ?_ ((Go.RE.Each.cons ?_ (Go.RE.Each.cons ?_ (Go.RE.Each.cons ?_ (Go.RE.Each.cons ?_ (Go.RE.Each.cons ?_ (Go.RE.Each.cons ?_ (Go.RE.Each.cons ?_ Go.RE.Each.nil)))))))) ?_
   ·exact fun x => ⟨⟨fun _ => HI.out.drew,(fun h => by cases h),HI.out.hm⟩,fun h => (by cases h),fun h => (by cases h),fun h => (by cases h),fun h => (by cases h),fun h => (by cases h),fun h => (by cases h),fun h => (by cases h)⟩
   ·intro L x a wR K hL hd hf hx hΦ hK
    obtain ⟨hI,f0,f1,f2,f3,f4,f5,f6⟩:=hΦ
    refine ⟨fun _ => ?_,fun h => absurd h (by rw [Go.RE.wanted_none rfl]; decide)⟩
    have e6:a.tmps[6]? = some (.pointer (some ⟨w.heap.size + 3,0,none⟩)):=hf 6 (of_decide_eq_true (by kernel_rfl))
    clear hf hx hd
    go_simp
    refine hK _ _ ?_
    exact ⟨hI,fun _ => rfl,fun h => f1 h,fun h => f2 h,fun h => f3 h,fun h => f4 h,fun h => f5 h,fun h => f6 h⟩
   ·intro L x a wR K hL hd hf hx hΦ hK
    obtain ⟨hI,f0,f1,f2,f3,f4,f5,f6⟩:=hΦ
    refine ⟨fun _ => ?_,fun h => absurd h (by rw [Go.RE.wanted_none rfl]; decide)⟩
    have d0:=f0 (hd 0 (by kernel_rfl))
    have e26:a.tmps[26]? = some (x 26):=hx 0 _ 26 rfl rfl (hd 0 (by kernel_rfl))
    rw [d0] at e26
    have c:=HK.blk_cell hI.2.2 2
    clear hf hx hd
    go_simp
    refine hK _ _ ?_
    exact ⟨hI,fun h => f0 h,fun _ => rfl,fun h => f2 h,fun h => f3 h,fun h => f4 h,fun h => f5 h,fun h => f6 h⟩
   ·intro L x a wR K hL hd hf hx hΦ hK
    obtain ⟨hI,f0,f1,f2,f3,f4,f5,f6⟩:=hΦ
    refine ⟨fun _ => ?_,fun h => absurd h (by rw [Go.RE.wanted_none rfl]; decide)⟩
    have e7:a.tmps[7]? = some (.int .i64 (wv:Int)):=hf 7 (of_decide_eq_true (by kernel_rfl))
    clear hf hx hd
    go_simp
    refine hK _ _ ?_
    exact ⟨hI,fun h => f0 h,fun h => f1 h,fun _ => rfl,fun h => f3 h,fun h => f4 h,fun h => f5 h,fun h => f6 h⟩
   ·intro L x a wR K hL hd hf hx hΦ hK
    obtain ⟨hI,f0,f1,f2,f3,f4,f5,f6⟩:=hΦ
    refine ⟨fun _ => ?_,fun h => absurd h (by rw [Go.RE.wanted_none rfl]; decide)⟩
    have e7:a.tmps[7]? = some (.int .i64 (wv:Int)):=hf 7 (of_decide_eq_true (by kernel_rfl))
    clear hf hx hd
    go_simp
    refine hK _ _ ?_
    exact ⟨hI,fun h => f0 h,fun h => f1 h,fun h => f2 h,fun _ => rfl,fun h => f4 h,fun h => f5 h,fun h => f6 h⟩
   ·intro L x a wR K hL hd hf hx hΦ hK
    obtain ⟨hI,f0,f1,f2,f3,f4,f5,f6⟩:=hΦ
    refine ⟨fun _ => ?_,fun h => absurd h (by rw [Go.RE.wanted_none rfl]; decide)⟩
    have d3:=f3 (hd 3 (by kernel_rfl))
    have e29:a.tmps[29]? = some (x 29):=hx 3 _ 29 rfl rfl (hd 3 (by kernel_rfl))
    rw [d3] at e29
    have sh1:=HQ1.out
    have sh2:=(IntWalk.i64_left _).symm.trans sh1
    have hmin:min wv 64 = wv:=HQM.out
    have qn:=HB0.out
    clear hf hx hd
    go_simp
    refine hK _ _ ?_
    exact ⟨hI,fun h => f0 h,fun h => f1 h,fun h => f2 h,fun h => f3 h,fun _ => rfl,fun h => f5 h,fun h => f6 h⟩
   ·intro L x a wR K hL hd hf hx hΦ hK
    obtain ⟨hI,f0,f1,f2,f3,f4,f5,f6⟩:=hΦ
    refine ⟨fun _ => ?_,fun h => absurd h (by rw [Go.RE.wanted_none rfl]; decide)⟩
    have d1:=f1 (hd 1 (by kernel_rfl))
    have e27:a.tmps[27]? = some (x 27):=hx 1 _ 27 rfl rfl (hd 1 (by kernel_rfl))
    rw [d1] at e27
    have d2:=f2 (hd 2 (by kernel_rfl))
    have e28:a.tmps[28]? = some (x 28):=hx 2 _ 28 rfl rfl (hd 2 (by kernel_rfl))
    rw [d2] at e28
    have l1:=HB0.out
    have l2:=HB1.out
    clear hf hx hd
    go_simp
    refine hK _ _ ?_
    exact ⟨hI,fun h => f0 h,fun h => f1 h,fun h => f2 h,fun h => f3 h,fun h => f4 h,fun _ => rfl,fun h => f6 h⟩
   ·intro L x a wR K hL hd hf hx hΦ hK
    obtain ⟨hI,f0,f1,f2,f3,f4,f5,f6⟩:=hΦ
    refine ⟨fun _ => ?_,fun h => absurd h (by rw [Go.RE.wanted_none rfl]; decide)⟩
    have d5:=f5 (hd 5 (by kernel_rfl))
    have e31:a.tmps[31]? = some (x 31):=hx 5 _ 31 rfl rfl (hd 5 (by kernel_rfl))
    rw [d5] at e31
    have d4:=f4 (hd 4 (by kernel_rfl))
    have e30:a.tmps[30]? = some (x 30):=hx 4 _ 30 rfl rfl (hd 4 (by kernel_rfl))
    rw [d4] at e30
    have cf:=fun i => HK.blk_frozen (hI.1 hL).hg i
    have c:=(hI.1 hL).cellAt wv HB2.out
    clear hf hx hd
    go_simp
    refine hK undef _ ?_
    exact ⟨⟨(fun h => by cases h),fun _ => (hI.1 hL).set wv q HQ16.out,blk_set_other hI.2.2 (p:=⟨w.heap.size + 2,wv,none⟩) (by simp) _⟩,fun h => f0 h,fun h => f1 h,fun h => f2 h,fun h => f3 h,fun h => f4 h,fun h => f5 h,fun _ => trivial⟩
   ·rintro x W ⟨hI,f0,f1,f2,f3,f4,f5,f6⟩
    have hI2:=hI.2.1 rfl
    obtain ⟨wo,hwo⟩:∃ wo:World,wo = W:=⟨_,rfl⟩
    subst hwo
    have HI2:=hid hI2
    clear hI hI2 f0 f1 f2 f3 f4 f5 f6
    simp only [Exit.then,Go.RE.fillL,List.any_cons,List.any_nil,Nat.beq,Bool.or_false,Bool.or_true,cond_true,cond_false,Bool.true_or,Bool.false_or]
    have ad8:wrap64 ((wv:Int) + 1) = ((wv + 1:Nat):Int):=by rw [<- IntWalk.i64_left,IntWalk.i64_in _ (by omega)]; omega
    clear ad8
    obtain ⟨fw,hfw⟩:∃ fw,fw = F wv:=⟨_,rfl⟩
    have hfl:fw < 256:=by rw [hfw]; exact HL.out wv
    have HFW:=hid hfw
    clear hfw
    go_wp2_with (fail)
    go_loopw [8] (fun i wi => ∃ j:Nat,wv + 1 + j <= n /\ i = .int .i64 ((wv + 1 + j:Nat):Int) /\ FoI w F n (rl.set wv (fRow fw wv rl j)) wi) (fun i _ => (n - (intOf i).toNat))
    case atStart => exact ⟨0,by have:=HWK.out; omega,by congr 1,by rw [show fRow fw wv rl 0 = q from HQ.out.symm]; exact HI2.out⟩
    case round =>
     obtain ⟨j,hj,rfl,hI⟩:=hrel
     obtain ⟨uv,huv⟩:∃ uv,uv = wv + 1 + j:=⟨_,rfl⟩
     rw [<- huv] at hj ⊢
     have HUV:=hid huv
     have HI:=hid hI
     by_cases hun:(uv:Int) < (n:Int)
     ·obtain ⟨xa,hxa⟩:∃ xa,xa = fRow fw wv rl j:=⟨_,rfl⟩
      rw [<- hxa] at hI
      have hlr:rl.length = n:=by have:=hI.len; rwa [List.length_set] at this
      have HXA:Hid ((rl.set wv xa)[wv]? = some xa):=hid (by rw [List.getElem?_set]; simp [hlr,HB2.out])
      obtain ⟨ya,hya⟩:∃ ya,ya = rl.getD uv 0:=⟨_,rfl⟩
      have HYA:Hid ((rl.set wv xa)[uv]? = some ya):=hid (by
       rw [List.getElem?_set,if_neg (by omega),hya,List.getD_eq_getElem?_getD,List.getElem?_eq_getElem (by omega)]; rfl)
      have hx16:xa < 16:=by have:=hI.lt wv; rw [getD_get HXA.out] at this; exact this
      have hy16:ya < 16:=by have:=hI.lt uv; rw [getD_get HYA.out] at this; exact this
      have hor:=bits_or xa ya (by omega) (by omega)
      obtain ⟨oa,hoa⟩:∃ oa,oa = xa ||| ya:=⟨_,rfl⟩
      rw [<- hoa] at hor
      have HOR:=hid hor
      have HO16:Hid (oa < 16):=hid (by rw [hoa]; exact Nat.or_lt_two_pow (n:=4) hx16 hy16)
      have HU0:Hid ((0:Int) <= (uv:Int)):=hid (by omega)
      have HU1:=hid hun
      obtain ⟨cb,hcb⟩:∃ cb,cb = (decide (wv = 0) || fw.testBit uv):=⟨_,rfl⟩
      have HNX:Hid (fRow fw wv rl (j + 1) = if cb = true then oa else xa):=hid (by
       unfold fRow
       rw [<- hxa,<- huv,<- hya,<- hoa,hcb]
       by_cases h:wv = 0 ∨ fw.testBit uv = true
       ·rw [if_pos h,if_pos (by simpa using h)]
       ·rw [if_neg h,if_neg (by simpa using h)])
      have HCB:=hid hcb
      have HI3:=hid hI
      have hbl:=HK.blk_cell hI.hl wv
      rw [seven_get F wv (by omega),<- HFW.out] at hbl
      have b1:(0:Int) <= (uv:Int):=by omega
      have b2:(uv:Int) <= 4:=by omega
      have HUN:Hid (uv < n):=hid (by omega)
      clear hI hlr hxa hya hx16 hy16 hor hoa hcb huv
      go_upto_region 10 with (fail)
      go_cut [50] from 39 to 50 (fun v wx => v = .bool cb /\ wx = wr)
      case first =>
       by_cases h0:wv = 0
       ·have hc:Hid (cb = true):=hid (by rw [HCB.out,h0]; rfl)
        have e0:((wv:Int) == 0) = true:=by simp; omega
        clear h0
        go_wp2_with (fail)
        go_meet
        exact ⟨by rw [hc.out],rfl⟩
       ·have e0:((wv:Int) == 0) = false:=by simp; omega
        have e00:¬ (wv:Int) = 0:=by omega
        have hc:Hid (cb = fw.testBit uv):=hid (by rw [HCB.out,decide_eq_false h0]; rfl)
        obtain ⟨qq,hqq⟩:∃ qq,qq = fw >>> uv:=⟨_,rfl⟩
        have s1:(fw:Int) / 2 ^ uv = (qq:Int):=by rw [hqq]; exact quo_nat fw uv
        have hq2:qq <= 256:=by rw [hqq,Nat.shiftRight_eq_div_pow]; exact Nat.le_trans (Nat.div_le_self _ _) (by omega)
        have htb:fw.testBit uv = decide (qq % 2 = 1):=by
         rw [hqq,Nat.testBit_eq_decide_div_mod_eq,Nat.shiftRight_eq_div_pow]
        obtain ⟨rr,hrr⟩:∃ rr,rr = qq % 2:=⟨_,rfl⟩
        have s2:(qq:Int).tmod 2 = (rr:Int):=by rw [hrr]; exact (Int.ofNat_tmod qq 2).symm
        have s3:(qq:Int) % 2 = (rr:Int):=by omega
        have HT:Hid (cb = decide (rr = 1)):=hid (by rw [hc.out,htb,hrr])
        have hmin:min uv 64 = uv:=by omega
        clear h0 hqq htb hrr
        have hw8:IntKind.i64.wrap (fw:Int) = (fw:Int):=IntWalk.i64_in _ (by omega)
        go_wp2_with (fail)
        go_meet
        refine ⟨?_,rfl⟩
        rw [HT.out]
        congr 1
        rw [Bool.eq_iff_iff]
        simp
        try omega
      case rest =>
       obtain ⟨rfl,hw⟩:=hcut
       subst hw
       cases cb
       case false =>
        go_wp2_with (fail)
        go_roundw
        case rel => exact ⟨j + 1,by have:=HUV.out; have:=HUN.out; omega,by have:=HUV.out; congr 1; omega,by rw [HNX.out]; exact HI3.out⟩
        case measure => have:=HUN.out; simp [intOf]; omega
       case true =>
        obtain ⟨rz,hrz⟩:∃ rz,rz = rl.set wv xa:=⟨_,rfl⟩
        rw [<- hrz] at HI3 HXA HYA
        have HRZ:Hid (rz.set wv oa = rl.set wv oa):=hid (by rw [hrz,List.set_set])
        clear hrz
        go_upto_region 11 with (fail)
        refine Go.RE.wp_region_eachg [51,52,53,54,55,56,57,58,59,60,61,62] (fun L x W => ((L 12 = false -> FoI w F n rz W) /\ (L 12 = true -> FoI w F n (rz.set wv oa) W) /\ W.heap[w.heap.size + 3]? = some (.cells #[.int .u8 3,.int .i64 (n:Int),.slice (some ⟨w.heap.size + 2,0,none⟩) n n,.int .i64 0,.slice none 0 0,.slice none 0 0,.slice none 0 0] 30 (0,0))) /\ (L 0 = true -> x 51 = .pointer (some ⟨w.heap.size + 3,2,none⟩)) /\ (L 1 = true -> x 52 = .slice (some ⟨w.heap.size + 2,0,none⟩) n n) /\ (L 2 = true -> x 53 = .int .i64 (wv:Int)) /\ (L 3 = true -> x 54 = .pointer (some ⟨w.heap.size + 2,wv,none⟩)) /\ (L 4 = true -> x 55 = .int .i64 (xa:Int)) /\ (L 5 = true -> x 56 = .pointer (some ⟨w.heap.size + 3,2,none⟩)) /\ (L 6 = true -> x 57 = .slice (some ⟨w.heap.size + 2,0,none⟩) n n) /\ (L 7 = true -> x 58 = .int .i64 (uv:Int)) /\ (L 8 = true -> x 59 = .pointer (some ⟨w.heap.size + 2,uv,none⟩)) /\ (L 9 = true -> x 60 = .int .i64 (ya:Int)) /\ (L 10 = true -> L 4 = true /\ L 9 = true /\ x 61 = .int .i64 (oa:Int)) /\ (L 11 = true -> x 62 = .pointer (some ⟨w.heap.size + 2,wv,none⟩)) /\ (L 12 = true -> L 10 = true)) (by kernel_rfl) (by kernel_rfl) (by kernel_rfl) ?_ ((Go.RE.Each.cons ?_ (Go.RE.Each.cons ?_ (Go.RE.Each.cons ?_ (Go.RE.Each.cons ?_ (Go.RE.Each.cons ?_ (Go.RE.Each.cons ?_ (Go.RE.Each.cons ?_ (Go.RE.Each.cons ?_ (Go.RE.Each.cons ?_ (Go.RE.Each.cons ?_ (Go.RE.Each.cons ?_ (Go.RE.Each.cons ?_ (Go.RE.Each.cons ?_ Go.RE.Each.nil)))))))))))))) ?_
        ·exact fun x => ⟨⟨fun _ => HI3.out.drew,(fun h => by cases h),HI3.out.hm⟩,fun h => (by cases h),fun h => (by cases h),fun h => (by cases h),fun h => (by cases h),fun h => (by cases h),fun h => (by cases h),fun h => (by cases h),fun h => (by cases h),fun h => (by cases h),fun h => (by cases h),fun h => (by cases h),fun h => (by cases h),fun h => (by cases h)⟩
        ·intro L x a wR K hL hd hf hx hΦ hK
         obtain ⟨hI,f0,f1,f2,f3,f4,f5,f6,f7,f8,f9,f10,f11,f12⟩:=hΦ
         refine ⟨fun _ => ?_,fun h => absurd h (by rw [Go.RE.wanted_none rfl]; decide)⟩
         have e6:a.tmps[6]? = some (.pointer (some ⟨w.heap.size + 3,0,none⟩)):=hf 6 (of_decide_eq_true (by kernel_rfl))
         clear hf hx hd
         go_simp
         refine hK _ _ ?_
         exact ⟨hI,fun _ => rfl,fun h => f1 h,fun h => f2 h,fun h => f3 h,fun h => f4 h,fun h => f5 h,fun h => f6 h,fun h => f7 h,fun h => f8 h,fun h => f9 h,fun h => f10 h,fun h => f11 h,fun h => f12 h⟩
        ·intro L x a wR K hL hd hf hx hΦ hK
         obtain ⟨hI,f0,f1,f2,f3,f4,f5,f6,f7,f8,f9,f10,f11,f12⟩:=hΦ
         refine ⟨fun _ => ?_,fun h => absurd h (by rw [Go.RE.wanted_none rfl]; decide)⟩
         have d0:=f0 (hd 0 (by kernel_rfl))
         have e51:a.tmps[51]? = some (x 51):=hx 0 _ 51 rfl rfl (hd 0 (by kernel_rfl))
         rw [d0] at e51
         have c:=HK.blk_cell hI.2.2 2
         clear hf hx hd
         go_simp
         refine hK _ _ ?_
         exact ⟨hI,fun h => f0 h,fun _ => rfl,fun h => f2 h,fun h => f3 h,fun h => f4 h,fun h => f5 h,fun h => f6 h,fun h => f7 h,fun h => f8 h,fun h => f9 h,fun h => f10 h,fun h => f11 h,fun h => f12 h⟩
        ·intro L x a wR K hL hd hf hx hΦ hK
         obtain ⟨hI,f0,f1,f2,f3,f4,f5,f6,f7,f8,f9,f10,f11,f12⟩:=hΦ
         refine ⟨fun _ => ?_,fun h => absurd h (by rw [Go.RE.wanted_none rfl]; decide)⟩
         have e7:a.tmps[7]? = some (.int .i64 (wv:Int)):=hf 7 (of_decide_eq_true (by kernel_rfl))
         clear hf hx hd
         go_simp
         refine hK _ _ ?_
         exact ⟨hI,fun h => f0 h,fun h => f1 h,fun _ => rfl,fun h => f3 h,fun h => f4 h,fun h => f5 h,fun h => f6 h,fun h => f7 h,fun h => f8 h,fun h => f9 h,fun h => f10 h,fun h => f11 h,fun h => f12 h⟩
        ·intro L x a wR K hL hd hf hx hΦ hK
         obtain ⟨hI,f0,f1,f2,f3,f4,f5,f6,f7,f8,f9,f10,f11,f12⟩:=hΦ
         refine ⟨fun _ => ?_,fun h => absurd h (by rw [Go.RE.wanted_none rfl]; decide)⟩
         have d1:=f1 (hd 1 (by kernel_rfl))
         have e52:a.tmps[52]? = some (x 52):=hx 1 _ 52 rfl rfl (hd 1 (by kernel_rfl))
         rw [d1] at e52
         have d2:=f2 (hd 2 (by kernel_rfl))
         have e53:a.tmps[53]? = some (x 53):=hx 2 _ 53 rfl rfl (hd 2 (by kernel_rfl))
         rw [d2] at e53
         have l1:=HB0.out
         have l2:=HB1.out
         clear hf hx hd
         go_simp
         refine hK _ _ ?_
         exact ⟨hI,fun h => f0 h,fun h => f1 h,fun h => f2 h,fun _ => rfl,fun h => f4 h,fun h => f5 h,fun h => f6 h,fun h => f7 h,fun h => f8 h,fun h => f9 h,fun h => f10 h,fun h => f11 h,fun h => f12 h⟩
        ·intro L x a wR K hL hd hf hx hΦ hK
         obtain ⟨hI,f0,f1,f2,f3,f4,f5,f6,f7,f8,f9,f10,f11,f12⟩:=hΦ
         refine ⟨fun _ => ?_,fun h => absurd h (by rw [Go.RE.wanted_none rfl]; decide)⟩
         have d3:=f3 (hd 3 (by kernel_rfl))
         have e54:a.tmps[54]? = some (x 54):=hx 3 _ 54 rfl rfl (hd 3 (by kernel_rfl))
         rw [d3] at e54
         have hL12:L 12 = false:=by rcases e:L 12 with _ | _; rfl; exact absurd (f10 (f12 e)).1 (by rw [hL]; decide)
         have c:=(hI.1 hL12).cellOf HXA.out
         clear hf hx hd
         go_simp
         refine hK _ _ ?_
         exact ⟨hI,fun h => f0 h,fun h => f1 h,fun h => f2 h,fun h => f3 h,fun _ => rfl,fun h => f5 h,fun h => f6 h,fun h => f7 h,fun h => f8 h,fun h => f9 h,fun h => by have hh:=f10 h; simp [hL] at hh,fun h => f11 h,fun h => f12 h⟩
        ·intro L x a wR K hL hd hf hx hΦ hK
         obtain ⟨hI,f0,f1,f2,f3,f4,f5,f6,f7,f8,f9,f10,f11,f12⟩:=hΦ
         refine ⟨fun _ => ?_,fun h => absurd h (by rw [Go.RE.wanted_none rfl]; decide)⟩
         have e6:a.tmps[6]? = some (.pointer (some ⟨w.heap.size + 3,0,none⟩)):=hf 6 (of_decide_eq_true (by kernel_rfl))
         clear hf hx hd
         go_simp
         refine hK _ _ ?_
         exact ⟨hI,fun h => f0 h,fun h => f1 h,fun h => f2 h,fun h => f3 h,fun h => f4 h,fun _ => rfl,fun h => f6 h,fun h => f7 h,fun h => f8 h,fun h => f9 h,fun h => f10 h,fun h => f11 h,fun h => f12 h⟩
        ·intro L x a wR K hL hd hf hx hΦ hK
         obtain ⟨hI,f0,f1,f2,f3,f4,f5,f6,f7,f8,f9,f10,f11,f12⟩:=hΦ
         refine ⟨fun _ => ?_,fun h => absurd h (by rw [Go.RE.wanted_none rfl]; decide)⟩
         have d5:=f5 (hd 5 (by kernel_rfl))
         have e56:a.tmps[56]? = some (x 56):=hx 5 _ 56 rfl rfl (hd 5 (by kernel_rfl))
         rw [d5] at e56
         have c:=HK.blk_cell hI.2.2 2
         clear hf hx hd
         go_simp
         refine hK _ _ ?_
         exact ⟨hI,fun h => f0 h,fun h => f1 h,fun h => f2 h,fun h => f3 h,fun h => f4 h,fun h => f5 h,fun _ => rfl,fun h => f7 h,fun h => f8 h,fun h => f9 h,fun h => f10 h,fun h => f11 h,fun h => f12 h⟩
        ·intro L x a wR K hL hd hf hx hΦ hK
         obtain ⟨hI,f0,f1,f2,f3,f4,f5,f6,f7,f8,f9,f10,f11,f12⟩:=hΦ
         refine ⟨fun _ => ?_,fun h => absurd h (by rw [Go.RE.wanted_none rfl]; decide)⟩
         have e8:a.tmps[8]? = some (.int .i64 (uv:Int)):=hf 8 (of_decide_eq_true (by kernel_rfl))
         clear hf hx hd
         go_simp
         refine hK _ _ ?_
         exact ⟨hI,fun h => f0 h,fun h => f1 h,fun h => f2 h,fun h => f3 h,fun h => f4 h,fun h => f5 h,fun h => f6 h,fun _ => rfl,fun h => f8 h,fun h => f9 h,fun h => f10 h,fun h => f11 h,fun h => f12 h⟩
        ·intro L x a wR K hL hd hf hx hΦ hK
         obtain ⟨hI,f0,f1,f2,f3,f4,f5,f6,f7,f8,f9,f10,f11,f12⟩:=hΦ
         refine ⟨fun _ => ?_,fun h => absurd h (by rw [Go.RE.wanted_none rfl]; decide)⟩
         have d6:=f6 (hd 6 (by kernel_rfl))
         have e57:a.tmps[57]? = some (x 57):=hx 6 _ 57 rfl rfl (hd 6 (by kernel_rfl))
         rw [d6] at e57
         have d7:=f7 (hd 7 (by kernel_rfl))
         have e58:a.tmps[58]? = some (x 58):=hx 7 _ 58 rfl rfl (hd 7 (by kernel_rfl))
         rw [d7] at e58
         have l1:=HU0.out
         have l2:=HU1.out
         clear hf hx hd
         go_simp
         refine hK _ _ ?_
         exact ⟨hI,fun h => f0 h,fun h => f1 h,fun h => f2 h,fun h => f3 h,fun h => f4 h,fun h => f5 h,fun h => f6 h,fun h => f7 h,fun _ => rfl,fun h => f9 h,fun h => f10 h,fun h => f11 h,fun h => f12 h⟩
        ·intro L x a wR K hL hd hf hx hΦ hK
         obtain ⟨hI,f0,f1,f2,f3,f4,f5,f6,f7,f8,f9,f10,f11,f12⟩:=hΦ
         refine ⟨fun _ => ?_,fun h => absurd h (by rw [Go.RE.wanted_none rfl]; decide)⟩
         have d8:=f8 (hd 8 (by kernel_rfl))
         have e59:a.tmps[59]? = some (x 59):=hx 8 _ 59 rfl rfl (hd 8 (by kernel_rfl))
         rw [d8] at e59
         have hL12:L 12 = false:=by rcases e:L 12 with _ | _; rfl; exact absurd (f10 (f12 e)).2.1 (by rw [hL]; decide)
         have c:=(hI.1 hL12).cellOf HYA.out
         clear hf hx hd
         go_simp
         refine hK _ _ ?_
         exact ⟨hI,fun h => f0 h,fun h => f1 h,fun h => f2 h,fun h => f3 h,fun h => f4 h,fun h => f5 h,fun h => f6 h,fun h => f7 h,fun h => f8 h,fun _ => rfl,fun h => by have hh:=f10 h; simp [hL] at hh,fun h => f11 h,fun h => f12 h⟩
        ·intro L x a wR K hL hd hf hx hΦ hK
         obtain ⟨hI,f0,f1,f2,f3,f4,f5,f6,f7,f8,f9,f10,f11,f12⟩:=hΦ
         refine ⟨fun _ => ?_,fun h => absurd h (by rw [Go.RE.wanted_none rfl]; decide)⟩
         have d4:=f4 (hd 4 (by kernel_rfl))
         have e55:a.tmps[55]? = some (x 55):=hx 4 _ 55 rfl rfl (hd 4 (by kernel_rfl))
         rw [d4] at e55
         have d9:=f9 (hd 9 (by kernel_rfl))
         have e60:a.tmps[60]? = some (x 60):=hx 9 _ 60 rfl rfl (hd 9 (by kernel_rfl))
         rw [d9] at e60
         have l4:=hd 4 (by kernel_rfl)
         have l9:=hd 9 (by kernel_rfl)
         have hor:=HOR.out
         clear hf hx hd
         go_simp
         refine hK _ _ ?_
         exact ⟨hI,fun h => f0 h,fun h => f1 h,fun h => f2 h,fun h => f3 h,fun h => f4 h,fun h => f5 h,fun h => f6 h,fun h => f7 h,fun h => f8 h,fun h => f9 h,fun _ => ⟨l4,l9,rfl⟩,fun h => f11 h,fun h => by have hh:=f12 h; simp [hL] at hh⟩
        ·intro L x a wR K hL hd hf hx hΦ hK
         obtain ⟨hI,f0,f1,f2,f3,f4,f5,f6,f7,f8,f9,f10,f11,f12⟩:=hΦ
         refine ⟨fun _ => ?_,fun h => absurd h (by rw [Go.RE.wanted_none rfl]; decide)⟩
         have d1:=f1 (hd 1 (by kernel_rfl))
         have e52:a.tmps[52]? = some (x 52):=hx 1 _ 52 rfl rfl (hd 1 (by kernel_rfl))
         rw [d1] at e52
         have d2:=f2 (hd 2 (by kernel_rfl))
         have e53:a.tmps[53]? = some (x 53):=hx 2 _ 53 rfl rfl (hd 2 (by kernel_rfl))
         rw [d2] at e53
         have l1:=HB0.out
         have l2:=HB1.out
         clear hf hx hd
         go_simp
         refine hK _ _ ?_
         exact ⟨hI,fun h => f0 h,fun h => f1 h,fun h => f2 h,fun h => f3 h,fun h => f4 h,fun h => f5 h,fun h => f6 h,fun h => f7 h,fun h => f8 h,fun h => f9 h,fun h => f10 h,fun _ => rfl,fun h => f12 h⟩
        ·intro L x a wR K hL hd hf hx hΦ hK
         obtain ⟨hI,f0,f1,f2,f3,f4,f5,f6,f7,f8,f9,f10,f11,f12⟩:=hΦ
         refine ⟨fun _ => ?_,fun h => absurd h (by rw [Go.RE.wanted_none rfl]; decide)⟩
         have d11:=f11 (hd 11 (by kernel_rfl))
         have e62:a.tmps[62]? = some (x 62):=hx 11 _ 62 rfl rfl (hd 11 (by kernel_rfl))
         rw [d11] at e62
         have d10:=f10 (hd 10 (by kernel_rfl))
         have e61:a.tmps[61]? = some (x 61):=hx 10 _ 61 rfl rfl (hd 10 (by kernel_rfl))
         have l10:=hd 10 (by kernel_rfl)
         rw [d10.2.2] at e61
         have cf:=fun i => HK.blk_frozen (hI.1 hL).hg i
         have c:=(hI.1 hL).cellOf HXA.out
         clear hf hx hd
         go_simp
         refine hK undef _ ?_
         exact ⟨⟨(fun h => by cases h),fun _ => (hI.1 hL).set wv oa HO16.out,blk_set_other hI.2.2 (p:=⟨w.heap.size + 2,wv,none⟩) (by simp) _⟩,fun h => f0 h,fun h => f1 h,fun h => f2 h,fun h => f3 h,fun h => f4 h,fun h => f5 h,fun h => f6 h,fun h => f7 h,fun h => f8 h,fun h => f9 h,fun h => f10 h,fun h => f11 h,fun _ => l10⟩
        ·rintro x W ⟨hI,f0,f1,f2,f3,f4,f5,f6,f7,f8,f9,f10,f11,f12⟩
         have hI2:=hI.2.1 rfl
         rw [HRZ.out] at hI2
         have HI2:=hid hI2
         clear hI hI2 f0 f1 f2 f3 f4 f5 f6 f7 f8 f9 f10 f11 f12
         simp only [Exit.then,Go.RE.fillL,List.any_cons,List.any_nil,Nat.beq,Bool.or_false,Bool.or_true,cond_true,cond_false,Bool.true_or,Bool.false_or]
         go_wp2_with (fail)
         go_roundw
         case rel => exact ⟨j + 1,by have:=HUV.out; have:=HUN.out; omega,by have:=HUV.out; congr 1; omega,by rw [HNX.out]; exact HI2.out⟩
         case measure => have:=HUN.out; simp [intOf]; omega
     ·obtain rfl:n = uv:=by omega
      have HJK:Hid (j = k):=hid (by have:=HWK.out; omega)
      have HNX:Hid (fRel n F (k + 1) = rl.set wv (fRow fw wv rl j)):=hid (by
       rw [HJK.out,HFW.out,HRL.out]
       have:n - 1 - k = wv:=by have:=HWK.out; omega
       show (fRel n F k).set (n - 1 - k) (fRow (F (n - 1 - k)) (n - 1 - k) (fRel n F k) k) = _
       rw [this])
      clear hI
      go_wp2_with (fail)
      go_roundw
      case rel => exact ⟨k + 1,by have:=HK0.out; omega,fun h => by have:=HWK.out; congr 1; omega,fun h => by have:=HWK.out; congr 1; omega,by rw [HNX.out]; exact HI.out⟩
      case measure => simp [intOf]; try omega
  ·have hkn2:k = n:=by omega
   obtain rfl:=hi2 hkn2
   rw [hkn2] at hI
   obtain ⟨rl,hrl⟩:∃ rl,rl = fRel n F n:=⟨_,rfl⟩
   rw [<- hrl] at hI
   have HRL:=hid hrl
   have HI:=hid hI
   clear hi1 hi2 hI hrl hk hkn hkn2
   obtain ⟨wq,hwq⟩:∃ wq:World,wq = wr:=⟨_,rfl⟩
   subst hwq
   have HAQ:Hid (w.heap.size + 4 <= wq.heap.size):=hid (by have:=HK.blk_lt HI.out.hm; omega)
   have HA0:Hid ((wq.alloc (.cells #[.int .i64 0,.int .i64 0,.int .i64 0] 75)).heap[wq.heap.size]? = some (.cells (ints (msK rl F n 0)).toArray 75 (0,0))):=hid (HK.blk_new _ _)
   have HI1:=hid (HI.out.alloc (.cells #[.int .i64 0,.int .i64 0,.int .i64 0] 75))
   go_wp2_with (fail)
   go_loopw [63] (fun i wt => ∃ k:Nat,k <= 3 /\ i = .int .i64 k /\ FoI w F n rl wt /\ wt.heap[wq.heap.size]? = some (.cells (ints (msK rl F n k)).toArray 75 (0,0))) (fun i _ => 3 - (intOf i).toNat)
   case atStart => exact ⟨0,by omega,rfl,HI1.out,HA0.out⟩
   case round =>
    obtain ⟨k,hk,rfl,hI,hA⟩:=hrel
    obtain ⟨wt,hwt⟩:∃ wt:World,wt = wr:=⟨_,rfl⟩
    subst hwt
    have HI2:=hid hI
    have HA2:=hid hA
    by_cases hk3:(k:Int) < 3
    ·have b0:(0:Int) <= (k:Int):=by omega
     obtain ⟨kk,hkk⟩:∃ kk,kk = 4 + k:=⟨_,rfl⟩
     obtain ⟨fk,hfk⟩:∃ fk,fk = F kk:=⟨_,rfl⟩
     have hfl:fk < 256:=by rw [hfk]; exact HL.out kk
     have HFK:=hid hfk
     have HKK:=hid hkk
     have HST:Hid ((msK rl F n k).set k (upK rl fk 0) = msK rl F n k):=hid (msK_start rl F n (by omega) fk)
     have HEN:Hid ((msK rl F n k).set k (upK rl fk n) = msK rl F n (k + 1)):=hid (by rw [hfk,hkk]; exact msK_end rl F n (by omega))
     have HB0:=hid b0
     have HB1:=hid hk3
     clear hI hA hfk hkk hk
     go_wp2_with (fail)
     go_loopw [11] (fun i wi => ∃ u:Nat,u <= n /\ i = .int .i64 u /\ FoI w F n rl wi /\ wi.heap[wq.heap.size]? = some (.cells (ints ((msK rl F n k).set k (upK rl fk u))).toArray 75 (0,0))) (fun i _ => n - (intOf i).toNat)
     case atStart => exact ⟨0,by omega,rfl,HI2.out,by rw [HST.out]; exact HA2.out⟩
     case round =>
      obtain ⟨u,hu,rfl,hI,hA⟩:=hrel
      have HI:=hid hI
      have HA:=hid hA
      by_cases hun:(u:Int) < (n:Int)
      ·have c0:(0:Int) <= (u:Int):=by omega
       have c4:(u:Int) <= 4:=by omega
       have hbl:=HK.blk_cell hI.hl kk
       rw [seven_get F kk (by have:=HKK.out; omega),<- HFK.out] at hbl
       have adk:4 + (k:Int) = (kk:Int):=by have:=HKK.out; omega
       have adk2:wrap64 (4 + (k:Int)) = (kk:Int):=by rw [<- IntWalk.i64_left,IntWalk.i64_in _ (by omega)]; exact adk
       have kk0:(0:Int) <= (kk:Int):=by omega
       have kk7:(kk:Int) < 7:=by omega
       obtain ⟨qq,hqq⟩:∃ qq,qq = fk >>> u:=⟨_,rfl⟩
       have s1:(fk:Int) / 2 ^ u = (qq:Int):=by rw [hqq]; exact quo_nat fk u
       have hq2:qq <= 256:=by rw [hqq,Nat.shiftRight_eq_div_pow]; exact Nat.le_trans (Nat.div_le_self _ _) (by omega)
       have htb:fk.testBit u = decide (qq % 2 = 1):=by
        rw [hqq,Nat.testBit_eq_decide_div_mod_eq,Nat.shiftRight_eq_div_pow]
       obtain ⟨rr,hrr⟩:∃ rr,rr = qq % 2:=⟨_,rfl⟩
       have s2:(qq:Int).tmod 2 = (rr:Int):=by rw [hrr]; exact (Int.ofNat_tmod qq 2).symm
       have s3:(qq:Int) % 2 = (rr:Int):=by omega
       have hmin:min u 64 = u:=by omega
       have hw8:IntKind.i64.wrap (fk:Int) = (fk:Int):=IntWalk.i64_in _ (by omega)
       rw [<- hrr] at htb
       have HTB:=hid htb
       have HUN:Hid (u < n):=hid (by omega)
       have HU0:=hid c0
       have HU1:=hid hun
       by_cases hr1:rr = 1
       ·have e1:((rr:Int) == 1) = true:=by simp; omega
        have HNX:Hid (upK rl fk (u + 1) = upK rl fk u ||| rl.getD u 0):=hid (by
         have:fk.testBit u = true:=by rw [HTB.out]; simp [hr1]
         show (if fk.testBit u = true then _ else _) = _
         rw [if_pos this])
        obtain ⟨ma,hma⟩:∃ ma,ma = upK rl fk u:=⟨_,rfl⟩
        obtain ⟨ms,hms⟩:∃ ms,ms = (msK rl F n k).set k ma:=⟨_,rfl⟩
        rw [<- hma,<- hms] at HA
        have HXA:Hid (ms[k]? = some ma):=hid (by rw [hms,List.getElem?_set]; simp [msK]; omega)
        obtain ⟨ya,hya⟩:∃ ya,ya = rl.getD u 0:=⟨_,rfl⟩
        have HYA:Hid (rl[u]? = some ya):=hid (by rw [hya,List.getD_eq_getElem?_getD,List.getElem?_eq_getElem (by rw [hI.len]; omega)]; rfl)
        have hm16:ma < 16:=by rw [hma]; exact upK_16 hI.lt fk u
        have hy16:ya < 16:=by rw [hya]; exact hI.lt u
        have hor:=bits_or ma ya (by omega) (by omega)
        obtain ⟨oa,hoa⟩:∃ oa,oa = ma ||| ya:=⟨_,rfl⟩
        rw [<- hoa] at hor
        have HOR:=hid hor
        rw [<- hma,<- hya,<- hoa] at HNX
        have HSS:Hid (ms.set k oa = (msK rl F n k).set k oa):=hid (by rw [hms,List.set_set])
        clear hI hA hqq htb hrr hr1 hma hms hya hm16 hy16 hor hoa
        go_upto_region 20 with (fail)
        refine Go.RE.wp_region_eachg [80,81,82,83,84,85,86,87,88,89] (fun L x W => ((L 10 = false -> W.heap[wq.heap.size]? = some (.cells (ints ms).toArray 75 (0,0))) /\ (L 10 = true -> W.heap[wq.heap.size]? = some (.cells (ints (ms.set k oa)).toArray 75 (0,0))) /\ FoI w F n rl W) /\ (L 0 = true -> x 80 = .int .i64 (k:Int)) /\ (L 1 = true -> x 81 = .pointer (some ⟨wq.heap.size,k,none⟩)) /\ (L 2 = true -> x 82 = .int .i64 (ma:Int)) /\ (L 3 = true -> x 83 = .pointer (some ⟨w.heap.size + 3,2,none⟩)) /\ (L 4 = true -> x 84 = .slice (some ⟨w.heap.size + 2,0,none⟩) n n) /\ (L 5 = true -> x 85 = .int .i64 (u:Int)) /\ (L 6 = true -> x 86 = .pointer (some ⟨w.heap.size + 2,u,none⟩)) /\ (L 7 = true -> x 87 = .int .i64 (ya:Int)) /\ (L 8 = true -> L 2 = true /\ x 88 = .int .i64 (oa:Int)) /\ (L 9 = true -> x 89 = .pointer (some ⟨wq.heap.size,k,none⟩)) /\ (L 10 = true -> L 8 = true)) (by kernel_rfl) (by kernel_rfl) (by kernel_rfl) ?_ ((Go.RE.Each.cons ?_ (Go.RE.Each.cons ?_ (Go.RE.Each.cons ?_ (Go.RE.Each.cons ?_ (Go.RE.Each.cons ?_ (Go.RE.Each.cons ?_ (Go.RE.Each.cons ?_ (Go.RE.Each.cons ?_ (Go.RE.Each.cons ?_ (Go.RE.Each.cons ?_ (Go.RE.Each.cons ?_ Go.RE.Each.nil)))))))))))) ?_
        ·exact fun x => ⟨⟨fun _ => HA.out,(fun h => by cases h),HI.out.drew⟩,fun h => (by cases h),fun h => (by cases h),fun h => (by cases h),fun h => (by cases h),fun h => (by cases h),fun h => (by cases h),fun h => (by cases h),fun h => (by cases h),fun h => (by cases h),fun h => (by cases h),fun h => (by cases h)⟩
        ·intro L x a wR K hL hd hf hx hΦ hK
         obtain ⟨hI,f0,f1,f2,f3,f4,f5,f6,f7,f8,f9,f10⟩:=hΦ
         refine ⟨fun _ => ?_,fun h => absurd h (by rw [Go.RE.wanted_none rfl]; decide)⟩
         have e10:a.tmps[10]? = some (.int .i64 (k:Int)):=hf 10 (of_decide_eq_true (by kernel_rfl))
         clear hf hx hd
         go_simp
         refine hK _ _ ?_
         exact ⟨hI,fun _ => rfl,fun h => f1 h,fun h => f2 h,fun h => f3 h,fun h => f4 h,fun h => f5 h,fun h => f6 h,fun h => f7 h,fun h => f8 h,fun h => f9 h,fun h => f10 h⟩
        ·intro L x a wR K hL hd hf hx hΦ hK
         obtain ⟨hI,f0,f1,f2,f3,f4,f5,f6,f7,f8,f9,f10⟩:=hΦ
         refine ⟨fun _ => ?_,fun h => absurd h (by rw [Go.RE.wanted_none rfl]; decide)⟩
         have e9:a.tmps[9]? = some (.pointer (some ⟨wq.heap.size,0,none⟩)):=hf 9 (of_decide_eq_true (by kernel_rfl))
         have d0:=f0 (hd 0 (by kernel_rfl))
         have e80:a.tmps[80]? = some (x 80):=hx 0 _ 80 rfl rfl (hd 0 (by kernel_rfl))
         rw [d0] at e80
         have l1:=HB0.out
         have l2:=HB1.out
         clear hf hx hd
         go_simp
         refine hK _ _ ?_
         exact ⟨hI,fun h => f0 h,fun _ => rfl,fun h => f2 h,fun h => f3 h,fun h => f4 h,fun h => f5 h,fun h => f6 h,fun h => f7 h,fun h => f8 h,fun h => f9 h,fun h => f10 h⟩
        ·intro L x a wR K hL hd hf hx hΦ hK
         obtain ⟨hI,f0,f1,f2,f3,f4,f5,f6,f7,f8,f9,f10⟩:=hΦ
         refine ⟨fun _ => ?_,fun h => absurd h (by rw [Go.RE.wanted_none rfl]; decide)⟩
         have d1:=f1 (hd 1 (by kernel_rfl))
         have e81:a.tmps[81]? = some (x 81):=hx 1 _ 81 rfl rfl (hd 1 (by kernel_rfl))
         rw [d1] at e81
         have hL10:L 10 = false:=by rcases e:L 10 with _ | _; rfl; exact absurd (f8 (f10 e)).1 (by rw [hL]; decide)
         have c:=row_cell (hI.1 hL10) HXA.out
         clear hf hx hd
         go_simp
         refine hK _ _ ?_
         exact ⟨hI,fun h => f0 h,fun h => f1 h,fun _ => rfl,fun h => f3 h,fun h => f4 h,fun h => f5 h,fun h => f6 h,fun h => f7 h,fun h => by have hh:=f8 h; simp [hL] at hh,fun h => f9 h,fun h => f10 h⟩
        ·intro L x a wR K hL hd hf hx hΦ hK
         obtain ⟨hI,f0,f1,f2,f3,f4,f5,f6,f7,f8,f9,f10⟩:=hΦ
         refine ⟨fun _ => ?_,fun h => absurd h (by rw [Go.RE.wanted_none rfl]; decide)⟩
         have e6:a.tmps[6]? = some (.pointer (some ⟨w.heap.size + 3,0,none⟩)):=hf 6 (of_decide_eq_true (by kernel_rfl))
         clear hf hx hd
         go_simp
         refine hK _ _ ?_
         exact ⟨hI,fun h => f0 h,fun h => f1 h,fun h => f2 h,fun _ => rfl,fun h => f4 h,fun h => f5 h,fun h => f6 h,fun h => f7 h,fun h => f8 h,fun h => f9 h,fun h => f10 h⟩
        ·intro L x a wR K hL hd hf hx hΦ hK
         obtain ⟨hI,f0,f1,f2,f3,f4,f5,f6,f7,f8,f9,f10⟩:=hΦ
         refine ⟨fun _ => ?_,fun h => absurd h (by rw [Go.RE.wanted_none rfl]; decide)⟩
         have d3:=f3 (hd 3 (by kernel_rfl))
         have e83:a.tmps[83]? = some (x 83):=hx 3 _ 83 rfl rfl (hd 3 (by kernel_rfl))
         rw [d3] at e83
         have c:=HK.blk_cell hI.2.2.hm 2
         clear hf hx hd
         go_simp
         refine hK _ _ ?_
         exact ⟨hI,fun h => f0 h,fun h => f1 h,fun h => f2 h,fun h => f3 h,fun _ => rfl,fun h => f5 h,fun h => f6 h,fun h => f7 h,fun h => f8 h,fun h => f9 h,fun h => f10 h⟩
        ·intro L x a wR K hL hd hf hx hΦ hK
         obtain ⟨hI,f0,f1,f2,f3,f4,f5,f6,f7,f8,f9,f10⟩:=hΦ
         refine ⟨fun _ => ?_,fun h => absurd h (by rw [Go.RE.wanted_none rfl]; decide)⟩
         have e11:a.tmps[11]? = some (.int .i64 (u:Int)):=hf 11 (of_decide_eq_true (by kernel_rfl))
         clear hf hx hd
         go_simp
         refine hK _ _ ?_
         exact ⟨hI,fun h => f0 h,fun h => f1 h,fun h => f2 h,fun h => f3 h,fun h => f4 h,fun _ => rfl,fun h => f6 h,fun h => f7 h,fun h => f8 h,fun h => f9 h,fun h => f10 h⟩
        ·intro L x a wR K hL hd hf hx hΦ hK
         obtain ⟨hI,f0,f1,f2,f3,f4,f5,f6,f7,f8,f9,f10⟩:=hΦ
         refine ⟨fun _ => ?_,fun h => absurd h (by rw [Go.RE.wanted_none rfl]; decide)⟩
         have d4:=f4 (hd 4 (by kernel_rfl))
         have e84:a.tmps[84]? = some (x 84):=hx 4 _ 84 rfl rfl (hd 4 (by kernel_rfl))
         rw [d4] at e84
         have d5:=f5 (hd 5 (by kernel_rfl))
         have e85:a.tmps[85]? = some (x 85):=hx 5 _ 85 rfl rfl (hd 5 (by kernel_rfl))
         rw [d5] at e85
         have l1:=HU0.out
         have l2:=HU1.out
         clear hf hx hd
         go_simp
         refine hK _ _ ?_
         exact ⟨hI,fun h => f0 h,fun h => f1 h,fun h => f2 h,fun h => f3 h,fun h => f4 h,fun h => f5 h,fun _ => rfl,fun h => f7 h,fun h => f8 h,fun h => f9 h,fun h => f10 h⟩
        ·intro L x a wR K hL hd hf hx hΦ hK
         obtain ⟨hI,f0,f1,f2,f3,f4,f5,f6,f7,f8,f9,f10⟩:=hΦ
         refine ⟨fun _ => ?_,fun h => absurd h (by rw [Go.RE.wanted_none rfl]; decide)⟩
         have d6:=f6 (hd 6 (by kernel_rfl))
         have e86:a.tmps[86]? = some (x 86):=hx 6 _ 86 rfl rfl (hd 6 (by kernel_rfl))
         rw [d6] at e86
         have c:=hI.2.2.cellOf HYA.out
         clear hf hx hd
         go_simp
         refine hK _ _ ?_
         exact ⟨hI,fun h => f0 h,fun h => f1 h,fun h => f2 h,fun h => f3 h,fun h => f4 h,fun h => f5 h,fun h => f6 h,fun _ => rfl,fun h => f8 h,fun h => f9 h,fun h => f10 h⟩
        ·intro L x a wR K hL hd hf hx hΦ hK
         obtain ⟨hI,f0,f1,f2,f3,f4,f5,f6,f7,f8,f9,f10⟩:=hΦ
         refine ⟨fun _ => ?_,fun h => absurd h (by rw [Go.RE.wanted_none rfl]; decide)⟩
         have d2:=f2 (hd 2 (by kernel_rfl))
         have e82:a.tmps[82]? = some (x 82):=hx 2 _ 82 rfl rfl (hd 2 (by kernel_rfl))
         rw [d2] at e82
         have d7:=f7 (hd 7 (by kernel_rfl))
         have e87:a.tmps[87]? = some (x 87):=hx 7 _ 87 rfl rfl (hd 7 (by kernel_rfl))
         rw [d7] at e87
         have l2:=hd 2 (by kernel_rfl)
         have hor:=HOR.out
         clear hf hx hd
         go_simp
         refine hK _ _ ?_
         exact ⟨hI,fun h => f0 h,fun h => f1 h,fun h => f2 h,fun h => f3 h,fun h => f4 h,fun h => f5 h,fun h => f6 h,fun h => f7 h,fun _ => ⟨l2,rfl⟩,fun h => f9 h,fun h => by have hh:=f10 h; simp [hL] at hh⟩
        ·intro L x a wR K hL hd hf hx hΦ hK
         obtain ⟨hI,f0,f1,f2,f3,f4,f5,f6,f7,f8,f9,f10⟩:=hΦ
         refine ⟨fun _ => ?_,fun h => absurd h (by rw [Go.RE.wanted_none rfl]; decide)⟩
         have e9:a.tmps[9]? = some (.pointer (some ⟨wq.heap.size,0,none⟩)):=hf 9 (of_decide_eq_true (by kernel_rfl))
         have d0:=f0 (hd 0 (by kernel_rfl))
         have e80:a.tmps[80]? = some (x 80):=hx 0 _ 80 rfl rfl (hd 0 (by kernel_rfl))
         rw [d0] at e80
         have l1:=HB0.out
         have l2:=HB1.out
         clear hf hx hd
         go_simp
         refine hK _ _ ?_
         exact ⟨hI,fun h => f0 h,fun h => f1 h,fun h => f2 h,fun h => f3 h,fun h => f4 h,fun h => f5 h,fun h => f6 h,fun h => f7 h,fun h => f8 h,fun _ => rfl,fun h => f10 h⟩
        ·intro L x a wR K hL hd hf hx hΦ hK
         obtain ⟨hI,f0,f1,f2,f3,f4,f5,f6,f7,f8,f9,f10⟩:=hΦ
         refine ⟨fun _ => ?_,fun h => absurd h (by rw [Go.RE.wanted_none rfl]; decide)⟩
         have d9:=f9 (hd 9 (by kernel_rfl))
         have e89:a.tmps[89]? = some (x 89):=hx 9 _ 89 rfl rfl (hd 9 (by kernel_rfl))
         rw [d9] at e89
         have d8:=f8 (hd 8 (by kernel_rfl))
         have e88:a.tmps[88]? = some (x 88):=hx 8 _ 88 rfl rfl (hd 8 (by kernel_rfl))
         have l8:=hd 8 (by kernel_rfl)
         rw [d8.2] at e88
         have cf:=fun i => HK.blk_frozen (hI.1 hL) i
         have c:=row_cell (hI.1 hL) HXA.out
         clear hf hx hd
         go_simp
         refine hK undef _ ?_
         exact ⟨⟨(fun h => by cases h),fun _ => row_set (hI.1 hL) k oa,hI.2.2.other (p:=⟨wq.heap.size,k,none⟩) HAQ.out _⟩,fun h => f0 h,fun h => f1 h,fun h => f2 h,fun h => f3 h,fun h => f4 h,fun h => f5 h,fun h => f6 h,fun h => f7 h,fun h => f8 h,fun h => f9 h,fun _ => l8⟩
        ·rintro x W ⟨hI,f0,f1,f2,f3,f4,f5,f6,f7,f8,f9,f10⟩
         have hI2:=hI.2.2
         have hA2:=hI.2.1 rfl
         rw [HSS.out] at hA2
         have HI3:=hid hI2
         have HA3:=hid hA2
         clear hI hI2 hA2 f0 f1 f2 f3 f4 f5 f6 f7 f8 f9 f10 adk adk2 s1 s2 s3 hmin hw8 e1
         simp only [Exit.then,Go.RE.fillL,List.any_cons,List.any_nil,Nat.beq,Bool.or_false,Bool.or_true,cond_true,cond_false,Bool.true_or,Bool.false_or]
         go_wp2_with (fail)
         go_roundw
         case rel => exact ⟨u + 1,by have:=HUN.out; omega,by go_num,HI3.out,by rw [HNX.out]; exact HA3.out⟩
         case measure => have:=HUN.out; simp [intOf]; omega
       ·have e1:((rr:Int) == 1) = false:=by simp; omega
        have e2:¬ (rr:Int) = 1:=by omega
        have HNX:Hid (upK rl fk (u + 1) = upK rl fk u):=hid (by
         have:¬ fk.testBit u = true:=by rw [HTB.out]; simp [hr1]
         show (if fk.testBit u = true then _ else _) = _
         rw [if_neg this])
        clear hI hA hqq htb hrr hr1
        go_wp2_with (fail)
        go_roundw
        case rel => exact ⟨u + 1,by have:=HUN.out; omega,by go_num,HI.out,by rw [HNX.out]; exact HA.out⟩
        case measure => have:=HUN.out; simp [intOf]; omega
      ·obtain rfl:n = u:=by omega
       clear hI hA
       go_wp2_with (fail)
       go_roundw
       case rel => exact ⟨k + 1,by have:=HB1.out; omega,by go_num,HI.out,by rw [<- HEN.out]; exact HA.out⟩
       case measure => have:=HB1.out; simp [intOf]; omega
    ·obtain rfl:3 = k:=by omega
     have HBW:=hid hI.bl
     have hms:msK rl F n 3 = [upK rl (F 4) n,upK rl (F 5) n,upK rl (F 6) n]:=by simp [msK]
     rw [hms] at hA
     have hfc:=facts_call wt wq.heap.size 0 3 3 [upK rl (F 4) n,upK rl (F 5) n,upK rl (F 6) n] (isR3 hA) rfl (by omega)
     unfold RetFa at hfc
     have HFC:=hid hfc
     have HI3:=hid hI
     clear hI hA hms hfc HI2 HA2
     go_upto_region 23 with (go_at_call 38; ((with_reducible refine HFC.out.mono ?_); rintro e w5 ⟨v5,rfl,hB5,hown⟩; obtain ⟨fg,fc,rfl,hg8,hg9⟩:=own_form9 hown (by simp); have hI5:=HI3.out.below hB5; have m4:=HK.blk_cell hI5.hm 4; have mf:=fun i => HK.blk_frozen hI5.hm i; have HI5:=hid hI5; have HO2:=hid hown; clear hI5 hown hB5))
     have hm:=HK.blk_set HI5.out.hm 4 (.slice (some ⟨fg,0,none⟩) 3 fc)
     have hm:(w5.setCell ⟨w.heap.size + 3,4,none⟩ (.slice (some ⟨fg,0,none⟩) 3 fc)).heap[w.heap.size + 3]? = some (.cells #[.int .u8 3,.int .i64 (n:Int),.slice (some ⟨w.heap.size + 2,0,none⟩) n n,.int .i64 0,.slice (some ⟨fg,0,none⟩) 3 fc,.slice none 0 0,.slice none 0 0] 30 (0,0)):=hm
     have hr:=blk_set_other HI5.out.hr (p:=⟨w.heap.size + 3,4,none⟩) (by simp) (.slice (some ⟨fg,0,none⟩) 3 fc)
     have hgo:(w5.setCell ⟨w.heap.size + 3,4,none⟩ (.slice (some ⟨fg,0,none⟩) 3 fc)).ownsRow w.heap.size 3 1 (.slice (some ⟨w.heap.size + 2,0,none⟩) n n) n (ints rl):=by
      have hg:=blk_set_other HI5.out.hg (p:=⟨w.heap.size + 3,4,none⟩) (by simp) (.slice (some ⟨fg,0,none⟩) 3 fc)
      have hln:=HI5.out.len
      refine ⟨by rw [ints_len,hln]; omega,.inr ⟨w.heap.size + 2,n,_,rfl,by omega,hg,Nat.le_refl _,by unfold maxLen; omega,by simp [ints,hln],?_⟩⟩
      rw [List.take_of_length_le (by simp [ints,hln])]
     have hfo:(w5.setCell ⟨w.heap.size + 3,4,none⟩ (.slice (some ⟨fg,0,none⟩) 3 fc)).ownsRow w.heap.size 46 3 (.slice (some ⟨fg,0,none⟩) 3 fc) 3 (fcs 0 [upK rl (F 4) n,upK rl (F 5) n,upK rl (F 6) n]):=own_mono9 (owns_setCell HO2.out (p:=⟨w.heap.size + 3,4,none⟩) (owns_ne_type HO2.out HI5.out.hm (by intro c h; injection h with _ h _; cases h)) _) HBW.out.size
     have hbl:=HI5.out.bl.setCell (p:=⟨w.heap.size + 3,4,none⟩) (by simp) (.slice (some ⟨fg,0,none⟩) 3 fc)
     obtain ⟨w6,hw6⟩:∃ w6,w6 = w5.setCell ⟨w.heap.size + 3,4,none⟩ (.slice (some ⟨fg,0,none⟩) 3 fc):=⟨_,rfl⟩
     have hw6':w5.setCell ⟨w.heap.size + 1 + 1 + 1,4,none⟩ (.slice (some ⟨fg,0,none⟩) 3 fc) = w6:=hw6.symm
     rw [<- hw6] at hm hr hgo hfo hbl
     try rw [hw6']
     try rw [<- hw6]
     have r0:=HK.blk_cell hr
     have m0:=HK.blk_cell hm
     have HRR:=hid hr
     have HO1:=hid hgo
     have HO3:=hid hfo
     have HBL2:=hid hbl
     have cf:=fun i => HK.blk_frozen hr i
     have c0:=r0 0
     have c1:=r0 1
     have c2:=r0 2
     have c3:=r0 3
     have c4:=r0 4
     have c5:=r0 5
     have c6:=r0 6
     have d0:=m0 0
     have d1:=m0 1
     have d2:=m0 2
     have d3:=m0 3
     have d4:=m0 4
     have d5:=m0 5
     have d6:=m0 6
     clear hm hr hgo hfo hbl r0 m0 HI5 hw6 hw6' m4 mf
     go_wp2_with (fail)
     have hf7:=frm7 w6 (w.heap.size + 1) (.int .u8 3) (.int .i64 (n:Int)) (.slice (some ⟨w.heap.size + 2,0,none⟩) n n) (.int .i64 0) (.slice (some ⟨fg,0,none⟩) 3 fc) (.slice none 0 0) (.slice none 0 0)
     refine bodyPost_ret (results_cell_row (p:=4) (ty:=30) (by kernel_rfl) _ _ (w.heap.size + 1) 30 _ (0,0) _ rfl (set7 HRR.out _ _ _ _ _ _ _) Tryd.underlying30 rfl (by kernel_rfl)) rfl ?_
     rw [<- HRL.out]
     exact ⟨w.heap.size + 2,n,fg,fc,rfl,HBL2.out.trans (hf7.below HBL2.out.size (fun j hj => by omega)),hf7.owns HO1.out (fun gg e e2 => owns_ne_type HO1.out HRR.out (by intro c h; injection h with _ h _; cases h) (e.trans (congrArg some e2))),hf7.owns HO3.out (fun gg e e2 => owns_ne_type HO3.out HRR.out (by intro c h; injection h with _ h _; cases h) (e.trans (congrArg some e2)))⟩
end Go.Proofs.YtflmllablfjfeaaDoor
