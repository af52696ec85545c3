import Derived.Test.YtflmllablfjfeaaDoorOrs
namespace Go.Proofs.YtflmllablfjfeaaDoor
open Go.RowKit Go.HK Go.FR Go.HRB Lib
set_option linter.unusedVariables false
set_option linter.unusedSimpArgs false
set_option linter.unusedSectionVars false
theorem inc_nil (w:World):Calls Tryd.prog 56 #[.slice none 0 0] w (RetB w (incK [] 0)):=by
 go_enter Tryd.func56,Tryd.ntmps56
 go_wp2_with (fail)
 go_loopw [7] (fun i wr => i = .int .i64 0 /\ wr = w) (fun i _ => 0)
 case atStart => exact ⟨rfl,rfl⟩
 case round =>
  obtain ⟨rfl,rfl⟩:=hrel
  go_wp2_with (fail)
  go_ret
  exact ⟨rfl,Below.refl _ _⟩
set_option maxRecDepth 100000 in
set_option maxHeartbeats 2000000 in
theorem count_nil (w:World) (kind mask:Nat) (size:Int) (hk:kind < 256) (hm:mask < 256) (hs:-9223372036854775808 <= size /\ size <= 9223372036854775807) :
  Calls Tryd.prog 32 #[.int .u8 (kind:Int),.int .u8 (mask:Int),.slice none 0 0,.int .i64 size] w (RetCount w kind mask size []):=by
 have hwr:=wrong_call w kind mask size hk hm hs
 have hin:=inc_nil w
 unfold RetCount
 rw [show ([]:List ByteArray).length = 0 from rfl]
 obtain ⟨wb,hwb⟩:∃ wb,wb = wrongB kind mask size:=⟨_,rfl⟩
 obtain ⟨ib,hib⟩:∃ ib,ib = incK [] 0:=⟨_,rfl⟩
 rw [<- hwb] at hwr ⊢
 rw [<- hib] at hin ⊢
 unfold RetB at hin
 have HWR:=hid hwr
 have HIN:=hid hin
 have HWB:=hid hwb
 clear hwr hin hib hwb
 cases wb
 ·cases ib
  ·rw [if_pos (.inr rfl)]
   go_enter Tryd.func32,Tryd.ntmps32
   go_wp2_with (first
    | (go_at_call 55; ((with_reducible refine HWR.out.mono ?_); rintro e w1 ⟨rfl,hw⟩; have hw:=hw.symm; subst hw))
    | (go_at_call 56; ((with_reducible refine HIN.out.mono ?_); rintro e w2 ⟨rfl,hB2⟩)))
   go_ret2
   exact ⟨hB2,rfl⟩
  ·rw [if_neg (by simp)]
   have hw1:1 <= size /\ size <= 4:=by
    have h:=HWB.out
    unfold wrongB at h
    split at h
    ·simp at h; omega
    ·split at h
     ·simp at h; omega
     ·cases h
   obtain ⟨z,rfl⟩:∃ z:Nat,size = (z:Int):=⟨size.toNat,by omega⟩
   rw [Int.toNat_natCast]
   have hco:=fun W => count_call W kind mask 0 z hk hm (by omega) (by omega)
   obtain ⟨S,hS⟩:∃ S,S = countS (decide (kind = 3)) mask 0 z:=⟨_,rfl⟩
   rw [<- hS] at hco ⊢
   have hS2:S <= 16385:=by rw [hS]; exact Nat.min_le_right _ _
   unfold RetN at hco
   simp only [show ((0:Nat):Int) = 0 from rfl] at hco
   have HCO:=hid hco
   clear hco hS
   by_cases hb:16384 < S
   ·rw [if_pos hb]
    have hb2:(16384:Int) < (S:Int):=by omega
    go_enter Tryd.func32,Tryd.ntmps32
    go_wp2_with (first
     | (go_at_call 55; ((with_reducible refine HWR.out.mono ?_); rintro e w1 ⟨rfl,hw⟩; have hw:=hw.symm; subst hw))
     | (go_at_call 56; ((with_reducible refine HIN.out.mono ?_); rintro e w2 ⟨rfl,hB2⟩))
     | (go_at_call 57; ((with_reducible refine (HCO.out _).mono ?_); rintro e w3 ⟨rfl,hB3⟩)))
    go_ret2
    exact ⟨hB2.trans (hB3.mono hB2.size),rfl⟩
   ·rw [if_neg hb]
    have hb2:¬ (16384:Int) < (S:Int):=by omega
    go_enter Tryd.func32,Tryd.ntmps32
    go_wp2_with (first
     | (go_at_call 55; ((with_reducible refine HWR.out.mono ?_); rintro e w1 ⟨rfl,hw⟩; have hw:=hw.symm; subst hw))
     | (go_at_call 56; ((with_reducible refine HIN.out.mono ?_); rintro e w2 ⟨rfl,hB2⟩))
     | (go_at_call 57; ((with_reducible refine (HCO.out _).mono ?_); rintro e w3 ⟨rfl,hB3⟩)))
    go_ret2
    exact ⟨hB2.trans (hB3.mono hB2.size),rfl⟩
 ·rw [if_pos (.inl rfl)]
  go_enter Tryd.func32,Tryd.ntmps32
  go_wp2_with (go_at_call 55; ((with_reducible refine HWR.out.mono ?_); rintro e w1 ⟨rfl,hw⟩; have hw:=hw.symm; subst hw))
  go_ret2
  exact ⟨Below.refl _ _,rfl⟩
attribute [local go_sem] Oper.semAt_some wide_fn asked_wide wide_depth
def RetNu (w:World) (e:Ending) (w':World):Prop:=e = .returned (.tuple #[.int .i64 0,.int .i64 2]) /\ Below w.heap.size w w'
set_option maxRecDepth 100000 in
set_option maxHeartbeats 4000000 in
theorem number_nv (w:World) (kind mask:Nat) (size loop:Int) (ra fa ua ba:Option Addr) (rn rc fn fc un uc bn bc:Nat)
  (hV:∀ W,Below w.heap.size w W -> Calls Tryd.prog 18 #[.agg #[.int .u8 (kind:Int),.int .i64 size,.slice ra rn rc,.int .i64 loop,.slice fa fn fc,.slice ua un uc,.slice ba bn bc]] W (RetW W false)) :
  Calls Tryd.prog 34 #[.agg #[.int .u8 (kind:Int),.int .i64 size,.slice ra rn rc,.int .i64 loop,.slice fa fn fc,.slice ua un uc,.slice ba bn bc],.int .u8 (mask:Int)] w (RetNu w):=by
 suffices h:CallsIn Fence.wide 4 Tryd.prog 34 #[.agg #[.int .u8 (kind:Int),.int .i64 size,.slice ra rn rc,.int .i64 loop,.slice fa fn fc,.slice ua un uc,.slice ba bn bc],.int .u8 (mask:Int)] w (RetNu w) from callsIn_wide.1 h
 have HV:=hid hV
 clear hV
 refine callsIn_of_wp_marks Tryd.func34 rfl trivial ?_ rfl
 simp only [Tryd.ntmps34,List.size_toArray,List.length_cons,List.length_nil,Nat.reduceAdd,Nat.reduceSub,Array.replicate_succ,Array.replicate_zero,List.push_toArray,List.append_toArray,List.nil_append,List.cons_append]
 gi_upto_region 1 with (fail)
 obtain ⟨A0,hA0⟩:∃ A,A = w.alloc (.cells #[.int .u8 (kind:Int),.int .i64 size,.slice ra rn rc,.int .i64 loop,.slice fa fn fc,.slice ua un uc,.slice ba bn bc] 30):=⟨_,rfl⟩
 have hb0:Below w.heap.size w A0:=by rw [hA0]; exact (Below.refl _ w).alloc (Nat.le_refl _) _
 have hm0:A0.heap[w.heap.size]? = some (.cells #[.int .u8 (kind:Int),.int .i64 size,.slice ra rn rc,.int .i64 loop,.slice fa fn fc,.slice ua un uc,.slice ba bn bc] 30 (0,0)):=by rw [hA0]; exact HK.blk_new _ _
 rw [<- hA0]
 have HB0:=hid hb0
 have c0:=fun i => HK.blk_cell hm0 i
 clear hA0 hb0 hm0
 gi_wp2_with (gi_at_call 18; refine (callsIn_wide.2 (HV.out _ HB0.out)).mono ?_; rintro e w1 ⟨rfl,hB1⟩; have HB1:=hid (HB0.out.trans (hB1.mono HB0.out.size)); clear hB1)
 refine ⟨.tuple #[.int .i64 0,.int .i64 2],by simp [results,Tryd.results34,go_sem],rfl,HB1.out⟩
set_option maxRecDepth 100000 in
set_option maxHeartbeats 4000000 in
theorem number_wr (w:World) (kind mask:Nat) (size loop:Int) (ra fa ua ba:Option Addr) (rn rc fn fc un uc bn bc:Nat) (hk:kind < 256) (hm:mask < 256) (hs:-9223372036854775808 <= size /\ size <= 9223372036854775807) (hw:wrongB kind mask size = true)
  (hV:∀ W,Below w.heap.size w W -> Calls Tryd.prog 18 #[.agg #[.int .u8 (kind:Int),.int .i64 size,.slice ra rn rc,.int .i64 loop,.slice fa fn fc,.slice ua un uc,.slice ba bn bc]] W (RetW W true)) :
  Calls Tryd.prog 34 #[.agg #[.int .u8 (kind:Int),.int .i64 size,.slice ra rn rc,.int .i64 loop,.slice fa fn fc,.slice ua un uc,.slice ba bn bc],.int .u8 (mask:Int)] w (RetNu w):=by
 suffices h:CallsIn Fence.wide 4 Tryd.prog 34 #[.agg #[.int .u8 (kind:Int),.int .i64 size,.slice ra rn rc,.int .i64 loop,.slice fa fn fc,.slice ua un uc,.slice ba bn bc],.int .u8 (mask:Int)] w (RetNu w) from callsIn_wide.1 h
 have HV:=hid hV
 have hwr:=fun W => wrong_call W kind mask size hk hm hs
 rw [hw] at hwr
 have HWR:=hid hwr
 clear hV hwr hw hk hm hs
 refine callsIn_of_wp_marks Tryd.func34 rfl trivial ?_ rfl
 simp only [Tryd.ntmps34,List.size_toArray,List.length_cons,List.length_nil,Nat.reduceAdd,Nat.reduceSub,Array.replicate_succ,Array.replicate_zero,List.push_toArray,List.append_toArray,List.nil_append,List.cons_append]
 gi_upto_region 1 with (fail)
 obtain ⟨A0,hA0⟩:∃ A,A = w.alloc (.cells #[.int .u8 (kind:Int),.int .i64 size,.slice ra rn rc,.int .i64 loop,.slice fa fn fc,.slice ua un uc,.slice ba bn bc] 30):=⟨_,rfl⟩
 have hb0:Below w.heap.size w A0:=by rw [hA0]; exact (Below.refl _ w).alloc (Nat.le_refl _) _
 have hm0:A0.heap[w.heap.size]? = some (.cells #[.int .u8 (kind:Int),.int .i64 size,.slice ra rn rc,.int .i64 loop,.slice fa fn fc,.slice ua un uc,.slice ba bn bc] 30 (0,0)):=by rw [hA0]; exact HK.blk_new _ _
 rw [<- hA0]
 have HB0:=hid hb0
 have HM0:=hid hm0
 have c0:=fun i => HK.blk_cell hm0 i
 clear hA0 hb0 hm0
 gi_wp2_with (first
  | (gi_at_call 18; refine (callsIn_wide.2 (HV.out _ HB0.out)).mono ?_; rintro e w1 ⟨rfl,hB1⟩; have HB1:=hid (HB0.out.trans (hB1.mono HB0.out.size)); have hm1:=(hB1.block _ (HK.blk_lt HM0.out)).trans HM0.out; have p0:=HK.blk_cell hm1 0; have p1:=HK.blk_cell hm1 1; clear hB1 hm1)
  | (gi_at_call 55; refine (callsIn_wide.2 (HWR.out _)).mono ?_; rintro e w' ⟨rfl,hw⟩; cases hw))
 refine ⟨.tuple #[.int .i64 0,.int .i64 2],by simp [results,Tryd.results34,go_sem],rfl,HB1.out⟩
end Go.Proofs.YtflmllablfjfeaaDoor
