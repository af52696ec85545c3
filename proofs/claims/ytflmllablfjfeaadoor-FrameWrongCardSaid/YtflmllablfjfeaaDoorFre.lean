import Derived.Test.YtflmllablfjfeaaDoorFrd
import Derived.Test.YtflmllablfjfeaaDoorTls
namespace Go.Proofs.YtflmllablfjfeaaDoor
open Go.RowKit Go.HK Go.FR Lib
set_option linter.unusedVariables false
set_option linter.unusedSimpArgs false
set_option linter.unusedSectionVars false
theorem info3:(Tryd.prog.info? 3).map (fun i => (i.zero,i.size,i.bytes)) = some (some (.int .i64 0),1,8):=by kernel_rfl
theorem elem25:ElemOk Tryd.prog 25 3 1 8:=.mk' Tryd.underlying25 info3 rfl (by omega)
def maskOk (force:Bool) (rel:List Nat) (m:Nat):Bool:=!force || persK rel m rel.length
def truthsK (force:Bool) (rel:List Nat) (k:Nat):List Nat:=(List.range k).filter (maskOk force rel)
theorem truthsK_succ (force:Bool) (rel:List Nat) (k:Nat):truthsK force rel (k + 1) = truthsK force rel k ++ (if maskOk force rel k = true then [k] else []):=by
 unfold truthsK
 rw [List.range_succ,List.filter_append]
 congr 1
 by_cases h:maskOk force rel k = true <;> simp [h]
theorem truthsK_len (force:Bool) (rel:List Nat) (k:Nat):(truthsK force rel k).length <= k:=by
 have:=List.length_filter_le (maskOk force rel) (List.range k)
 rw [List.length_range] at this
 exact this
def RetRow (w:World) (L:List Nat) (e:Ending) (w':World):Prop:=∃ v,e = .returned v /\ Below w.heap.size w w' /\ w'.ownsRow w.heap.size 3 1 v L.length (ints L)
set_option maxRecDepth 100000 in
set_option maxHeartbeats 2000000 in
theorem truths_force (w:World) (g o n c:Nat) (rel:List Nat) (hR:IsR w g o rel) (hn:rel.length = n) (hok:FrOk rel) :
  Calls Tryd.prog 59 #[.int .u8 3,.slice (some ⟨g,o,none⟩) n c] w (RetRow w (truthsK true rel (2 ^ n))):=by
 have h4:n <= 4:=by have:=hok.len; omega
 have f3:=(IntWalk.i64_left _).symm.trans (shl_wrap (k:=n) (by omega))
 have f3':=shl_wrap (k:=n) (by omega)
 obtain ⟨N,hN⟩:∃ N:Nat,N = 1 <<< n:=⟨_,rfl⟩
 have hNe:(2 ^ n:Nat) = N:=by rw [hN,Nat.one_shiftLeft]
 have hN16:N <= 16:=by rw [<- hNe]; exact pow_le4 h4
 rw [<- hN] at f3 f3'
 rw [hNe]
 have hmin:min n 64 = n:=by omega
 have HR:=hid hR
 have HN:=hid hn
 have HOK:=hid hok
 clear hN hNe hR hn hok
 go_enter Tryd.func59,Tryd.ntmps59
 go_wp2_with (fail)
 go_loopw [5,10] (fun v i wr => ∃ (vo:Value) (k:Nat),vo = v /\ k <= N /\ i = .int .i64 k /\ wr.ownsRow w.heap.size 3 1 vo (truthsK true rel k).length (ints (truthsK true rel k)) /\ Below w.heap.size w wr) (fun _ i _ => N - (intOf i).toNat)
 case atStart => exact ⟨_,0,rfl,by omega,rfl,World.ownsRow_nil _ _ _ _,Below.refl _ _⟩
 case round =>
  obtain ⟨vo,k,rfl,hk,rfl,ho,hB⟩:=hrel
  have HB:=hid hB
  have hRr:=HR.out.below hB
  by_cases hkn:(k:Int) < (N:Int)
  ·have b0:(0:Int) <= (k:Int):=by omega
   have hcl:=persists_call wr g o n c rel hRr HN.out HOK.out k (by omega)
   obtain ⟨pb,hpb⟩:∃ pb,pb = persK rel k n:=⟨_,rfl⟩
   rw [<- hpb] at hcl
   have HCL:=hid hcl
   have hmk:maskOk true rel k = (!true || pb):=by unfold maskOk; rw [HN.out,hpb]
   have HMK:=hid hmk
   obtain ⟨L,hL⟩:∃ L,L = truthsK true rel k:=⟨_,rfl⟩
   have hLk:=truthsK_len true rel k
   rw [<- hL] at ho hLk
   have HL:=hid hL
   have HO:=hid ho
   have hb2:=HB.out.size
   clear hcl hpb hmk hB hRr hL ho
   cases pb
   ·have hnx:Hid (truthsK true rel (k + 1) = L):=hid (by rw [truthsK_succ,HMK.out,HL.out]; simp)
    go_wp2_with (go_at_call 44; ((with_reducible refine HCL.out.mono ?_); rintro e w1 ⟨rfl,hw1⟩; have hw1:=hw1.symm; subst hw1))
    go_roundw
    case rel => exact ⟨_,k + 1,rfl,by omega,by go_num,by rw [hnx.out]; exact HO.out,HB.out⟩
    case measure => simp [intOf]; omega
   ·have hnx:Hid (truthsK true rel (k + 1) = L ++ [k]):=hid (by rw [truthsK_succ,HMK.out,HL.out]; rfl)
    go_wp2_with (first
     | (go_at_call 44; ((with_reducible refine HCL.out.mono ?_); rintro e w1 ⟨rfl,hw1⟩; have hw1:=hw1.symm; subst hw1))
     | (
      at_builtin
      refine wpList_app_any rfl elem25 _ _ rfl vo w.heap.size L.length (ints L) rfl (HO.out.alloc _) ⟨wr.heap.size,0,none⟩ 1 1 (ints [k]) rfl rfl (fun j u hj => by rw [addr_add0,HK.blk_cell (HK.blk_new _ _),List.getElem?_toArray]; exact hj) (ints_one _) (by simp only [maxLen]; omega) (by omega) (Nat.le_trans HB.out.size (by simp)) ?_
      intro v3 w3 hown hgrow hnil hat))
    go_roundw
    case rel => exact ⟨_,k + 1,rfl,by omega,by go_num,by rw [hnx.out,List.length_append,ints_append]; exact hown,(HB.out.alloc HB.out.size _).grown hgrow (Nat.le_trans HB.out.size (by simp)) (fun m hm => own_ge HO.out m hm)⟩
    case measure => simp [intOf]; omega
  ·obtain rfl:k = N:=by omega
   have HO:=hid ho
   clear ho hB hRr
   go_wp2_with (fail)
   go_ret
   exact ⟨_,rfl,HB.out,HO.out⟩
set_option maxRecDepth 100000 in
set_option maxHeartbeats 2000000 in
theorem truths_modal (w:World) (g o n c:Nat) (rel:List Nat) (hR:IsR w g o rel) (hn:rel.length = n) (hok:FrOk rel) (kind:Nat) (hk9:kind < 256) (hk3:¬ kind = 3) :
  Calls Tryd.prog 59 #[.int .u8 (kind:Int),.slice (some ⟨g,o,none⟩) n c] w (RetRow w (truthsK false rel (2 ^ n))):=by
 have h4:n <= 4:=by have:=hok.len; omega
 have f3:=(IntWalk.i64_left _).symm.trans (shl_wrap (k:=n) (by omega))
 have f3':=shl_wrap (k:=n) (by omega)
 obtain ⟨N,hN⟩:∃ N:Nat,N = 1 <<< n:=⟨_,rfl⟩
 have hNe:(2 ^ n:Nat) = N:=by rw [hN,Nat.one_shiftLeft]
 have hN16:N <= 16:=by rw [<- hNe]; exact pow_le4 h4
 rw [<- hN] at f3 f3'
 rw [hNe]
 have hmin:min n 64 = n:=by omega
 have HR:=hid hR
 have HN:=hid hn
 have HOK:=hid hok
 clear hN hNe hR hn hok
 have hkb:((kind:Int) == 3) = false:=by simp; omega
 have hkb2:((kind:Int) != 3) = true:=by simp; omega
 go_enter Tryd.func59,Tryd.ntmps59
 go_wp2_with (fail)
 go_loopw [5,10] (fun v i wr => ∃ (vo:Value) (k:Nat),vo = v /\ k <= N /\ i = .int .i64 k /\ wr.ownsRow w.heap.size 3 1 vo (truthsK false rel k).length (ints (truthsK false rel k)) /\ Below w.heap.size w wr) (fun _ i _ => N - (intOf i).toNat)
 case atStart => exact ⟨_,0,rfl,by omega,rfl,World.ownsRow_nil _ _ _ _,Below.refl _ _⟩
 case round =>
  obtain ⟨vo,k,rfl,hk,rfl,ho,hB⟩:=hrel
  have HB:=hid hB
  have hRr:=HR.out.below hB
  by_cases hkn:(k:Int) < (N:Int)
  ·have b0:(0:Int) <= (k:Int):=by omega
   have hcl:=persists_call wr g o n c rel hRr HN.out HOK.out k (by omega)
   obtain ⟨pb,hpb⟩:∃ pb,pb = persK rel k n:=⟨_,rfl⟩
   rw [<- hpb] at hcl
   have HCL:=hid hcl
   have hmk:maskOk false rel k = (!false || pb):=by unfold maskOk; rw [HN.out,hpb]
   have HMK:=hid hmk
   obtain ⟨L,hL⟩:∃ L,L = truthsK false rel k:=⟨_,rfl⟩
   have hLk:=truthsK_len false rel k
   rw [<- hL] at ho hLk
   have HL:=hid hL
   have HO:=hid ho
   have hb2:=HB.out.size
   clear hcl hpb hmk hB hRr hL ho
   cases pb
   ·have hnx:Hid (truthsK false rel (k + 1) = L ++ [k]):=hid (by rw [truthsK_succ,HMK.out,HL.out]; simp)
    go_wp2_with (first
     | (go_at_call 44; ((with_reducible refine HCL.out.mono ?_); rintro e w1 ⟨rfl,hw1⟩; have hw1:=hw1.symm; subst hw1))
     | (
      at_builtin
      refine wpList_app_any rfl elem25 _ _ rfl vo w.heap.size L.length (ints L) rfl (HO.out.alloc _) ⟨wr.heap.size,0,none⟩ 1 1 (ints [k]) rfl rfl (fun j u hj => by rw [addr_add0,HK.blk_cell (HK.blk_new _ _),List.getElem?_toArray]; exact hj) (ints_one _) (by simp only [maxLen]; omega) (by omega) (Nat.le_trans HB.out.size (by simp)) ?_
      intro v3 w3 hown hgrow hnil hat))
    go_roundw
    case rel => exact ⟨_,k + 1,rfl,by omega,by go_num,by rw [hnx.out,List.length_append,ints_append]; exact hown,(HB.out.alloc HB.out.size _).grown hgrow (Nat.le_trans HB.out.size (by simp)) (fun m hm => own_ge HO.out m hm)⟩
    case measure => simp [intOf]; omega
   ·have hnx:Hid (truthsK false rel (k + 1) = L ++ [k]):=hid (by rw [truthsK_succ,HMK.out,HL.out]; rfl)
    go_wp2_with (first
     | (go_at_call 44; ((with_reducible refine HCL.out.mono ?_); rintro e w1 ⟨rfl,hw1⟩; have hw1:=hw1.symm; subst hw1))
     | (
      at_builtin
      refine wpList_app_any rfl elem25 _ _ rfl vo w.heap.size L.length (ints L) rfl (HO.out.alloc _) ⟨wr.heap.size,0,none⟩ 1 1 (ints [k]) rfl rfl (fun j u hj => by rw [addr_add0,HK.blk_cell (HK.blk_new _ _),List.getElem?_toArray]; exact hj) (ints_one _) (by simp only [maxLen]; omega) (by omega) (Nat.le_trans HB.out.size (by simp)) ?_
      intro v3 w3 hown hgrow hnil hat))
    go_roundw
    case rel => exact ⟨_,k + 1,rfl,by omega,by go_num,by rw [hnx.out,List.length_append,ints_append]; exact hown,(HB.out.alloc HB.out.size _).grown hgrow (Nat.le_trans HB.out.size (by simp)) (fun m hm => own_ge HO.out m hm)⟩
    case measure => simp [intOf]; omega
  ·obtain rfl:k = N:=by omega
   have HO:=hid ho
   clear ho hB hRr
   go_wp2_with (fail)
   go_ret
   exact ⟨_,rfl,HB.out,HO.out⟩
theorem truths_call (w:World) (g o n c:Nat) (rel:List Nat) (hR:IsR w g o rel) (hn:rel.length = n) (hok:FrOk rel) (kind:Nat) (hk:kind < 256) :
  Calls Tryd.prog 59 #[.int .u8 (kind:Int),.slice (some ⟨g,o,none⟩) n c] w (RetRow w (truthsK (decide (kind = 3)) rel (2 ^ n))):=by
 by_cases h:kind = 3
 ·subst h; exact truths_force w g o n c rel hR hn hok
 ·rw [decide_eq_false h]; exact truths_modal w g o n c rel hR hn hok kind hk h
def powC (b n:Nat):Nat:=min (b ^ n) 16385
set_option maxRecDepth 100000 in
set_option maxHeartbeats 2000000 in
theorem power_call (w:World) (b n:Nat) (h1:1 <= b) (h16:b <= 16) (hn:n < 9223372036854775808):Calls Tryd.prog 60 #[.int .i64 (b:Int),.int .i64 (n:Int)] w fun e w' => e = .returned (.int .i64 ((powC b n:Nat):Int)) /\ w' = w:=by
 go_enter Tryd.func60,Tryd.ntmps60
 go_wp2_with (fail)
 go_loopw [1,5] (fun i v wr => ∃ k:Nat,k <= n /\ i = .int .i64 ((n - k:Nat):Int) /\ v = .int .i64 ((b ^ k:Nat):Int) /\ b ^ k <= 16384 /\ wr = w) (fun i _ _ => (intOf i).toNat)
 case atStart => exact ⟨0,by omega,rfl,by simp,by simp,rfl⟩
 case round =>
  obtain ⟨k,hk,rfl,rfl,hp,rfl⟩:=hrel
  obtain ⟨m,hm⟩:∃ m,m = n - k:=⟨_,rfl⟩
  obtain ⟨p,hpe⟩:∃ p,p = b ^ k:=⟨_,rfl⟩
  rw [<- hm,<- hpe]
  rw [<- hpe] at hp
  have HM:=hid hm
  have HPE:=hid hpe
  clear hm hpe
  by_cases hkn:(0:Int) < (m:Int)
  ·obtain ⟨q,hq⟩:∃ q,q = p * b:=⟨_,rfl⟩
   have hq2:q <= 16384 * 16:=by rw [hq]; exact Nat.mul_le_mul hp h16
   have f1:IntKind.i64.wrap ((p:Int) * (b:Int)) = (q:Int):=by rw [<- Int.natCast_mul,<- hq]; exact IntWalk.i64_in _ (by omega)
   have f1':wrap64 ((p:Int) * (b:Int)) = (q:Int):=(IntWalk.i64_left _).symm.trans f1
   have HQ:Hid (b ^ (k + 1) = q):=hid (by rw [Nat.pow_succ,<- HPE.out,hq])
   clear hq
   by_cases hb:(16384:Int) < (q:Int)
   ·have hbig:Hid (powC b n = 16385):=hid (by
     have h2:b ^ (k + 1) <= b ^ n:=Nat.pow_le_pow_right h1 (by have:=HM.out; omega)
     rw [HQ.out] at h2
     unfold powC
     omega)
    go_wp2_with (fail)
    go_ret
    exact ⟨by rw [hbig.out]; rfl,rfl⟩
   ·have hm2:((m:Int) - 1) = ((n - (k + 1):Nat):Int):=by have:=HM.out; omega
    have hkn2:k + 1 <= n:=by have:=HM.out; omega
    have f6:wrap64 ((m:Int) - 1) = (m:Int) - 1:=IntWalk.wrap64_in _ (by have:=HM.out; omega)
    have HM2:=hid hm2
    clear hm2
    go_wp2_with (fail)
    go_roundw
    case rel => exact ⟨k + 1,hkn2,by rw [<- HM2.out,f6],by rw [HQ.out],by rw [HQ.out]; omega,trivial⟩
    case measure => simp [intOf,f6]; omega
  ·have hkn2:k = n:=by have:=HM.out; omega
   have hend:Hid (powC b n = p):=hid (by unfold powC; rw [<- hkn2,<- HPE.out]; omega)
   go_wp2_with (fail)
   go_ret
   exact ⟨by rw [hend.out]; rfl,rfl⟩
end Go.Proofs.YtflmllablfjfeaaDoor
