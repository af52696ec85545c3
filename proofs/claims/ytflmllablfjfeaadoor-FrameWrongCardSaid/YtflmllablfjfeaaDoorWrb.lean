import Derived.Test.YtflmllablfjfeaaDoorWra
import Derived.Deep.CutRange
namespace Go.Proofs.YtflmllablfjfeaaDoor
open Go.RowKit Go.HK Go.FR Lib
set_option linter.unusedVariables false
set_option linter.unusedSimpArgs false
set_option linter.unusedSectionVars false
def RetPn (w:World) (er:Int) (e:Ending) (w':World):Prop:=Below w.heap.size w w' /\ e = .returned (.tuple #[.agg #[.int .u8 0,.int .i64 0,.slice none 0 0,.int .i64 0,.slice none 0 0,.slice none 0 0,.slice none 0 0],.int .i64 er])
set_option maxRecDepth 100000 in
set_option maxHeartbeats 4000000 in
theorem part_nv (w:World) (kind:Nat) (size loop wd:Int) (ra fa ua ba:Option Addr) (rn rc fn fc un uc bn bc:Nat)
  (hV:∀ W,Below w.heap.size w W -> Calls Tryd.prog 18 #[.agg #[.int .u8 (kind:Int),.int .i64 size,.slice ra rn rc,.int .i64 loop,.slice fa fn fc,.slice ua un uc,.slice ba bn bc]] W (RetW W false)) :
  Calls Tryd.prog 30 #[.agg #[.int .u8 (kind:Int),.int .i64 size,.slice ra rn rc,.int .i64 loop,.slice fa fn fc,.slice ua un uc,.slice ba bn bc],.int .i64 wd] w (RetPn w 2):=by
 have HV:=hid hV
 clear hV
 go_enter Tryd.func30,Tryd.ntmps30
 go_upto_region 1 with (fail)
 obtain ⟨A0,hA0⟩:∃ A,A = (w.alloc (.cells #[.int .u8 (kind:Int),.int .i64 size,.slice ra rn rc,.int .i64 loop,.slice fa fn fc,.slice ua un uc,.slice ba bn bc] 30)).alloc (.cells #[.int .u8 0,.int .i64 0,.slice none 0 0,.int .i64 0,.slice none 0 0,.slice none 0 0,.slice none 0 0] 30):=⟨_,rfl⟩
 have hb0:Below w.heap.size w A0:=by rw [hA0]; exact ((Below.refl _ w).alloc (Nat.le_refl _) _).alloc (by simp) _
 have hm0:A0.heap[w.heap.size]? = some (.cells #[.int .u8 (kind:Int),.int .i64 size,.slice ra rn rc,.int .i64 loop,.slice fa fn fc,.slice ua un uc,.slice ba bn bc] 30 (0,0)):=by rw [hA0]; exact HK.blk_alloc (HK.blk_new _ _) _
 have hm1:A0.heap[w.heap.size + 1]? = some (.cells #[.int .u8 0,.int .i64 0,.slice none 0 0,.int .i64 0,.slice none 0 0,.slice none 0 0,.slice none 0 0] 30 (0,0)):=by
  rw [hA0]
  have:=HK.blk_new (w.alloc (.cells #[.int .u8 (kind:Int),.int .i64 size,.slice ra rn rc,.int .i64 loop,.slice fa fn fc,.slice ua un uc,.slice ba bn bc] 30)) (.cells #[.int .u8 0,.int .i64 0,.slice none 0 0,.int .i64 0,.slice none 0 0,.slice none 0 0,.slice none 0 0] 30)
  simpa using this
 rw [<- hA0]
 have HB0:=hid hb0
 have HM0:=hid hm0
 have HM1:=hid hm1
 have c0:=fun i => HK.blk_cell hm0 i
 clear hA0 hb0 hm0 hm1
 go_upto_region 2 with (go_at_call 18; ((with_reducible refine (HV.out _ HB0.out).mono ?_); rintro e w1 ⟨rfl,hB1⟩); have HB1:=hid hB1; have p1:=HK.blk_cell ((hB1.block _ (HK.blk_lt HM0.out)).trans HM0.out) 1; clear hB1)
 have hm4:=(HB1.out.block _ (HK.blk_lt HM1.out)).trans HM1.out
 have k4:=fun i => HK.blk_cell hm4 i
 have f4:=fun i => HK.blk_frozen hm4 i
 have HM4:=hid hm4
 clear hm4
 go_wp2_with (fail)
 obtain ⟨W9,hW9⟩:∃ X,X = (((((((w1.setCell ⟨w.heap.size + 1,0,none⟩ (.int .u8 0)).setCell ⟨w.heap.size + 1,1,none⟩ (.int .i64 0)).setCell ⟨w.heap.size + 1,2,none⟩ (.slice none 0 0)).setCell ⟨w.heap.size + 1,3,none⟩ (.int .i64 0)).setCell ⟨w.heap.size + 1,4,none⟩ (.slice none 0 0)).setCell ⟨w.heap.size + 1,5,none⟩ (.slice none 0 0)).setCell ⟨w.heap.size + 1,6,none⟩ (.slice none 0 0)):=⟨_,rfl⟩
 rw [<- hW9]
 have h94:W9.heap[w.heap.size + 1]? = some (.cells #[.int .u8 0,.int .i64 0,.slice none 0 0,.int .i64 0,.slice none 0 0,.slice none 0 0,.slice none 0 0] 30 (0,0)):=by
  rw [hW9]
  exact put7_same HM4.out rfl _ _ _ _ _ _ _
 have hbw:Below w.heap.size w w1:=HB0.out.trans (HB1.out.mono HB0.out.size)
 have hB9:Below w.heap.size w W9:=by
  rw [hW9]
  exact put7_below hbw (by omega) _ _ _ _ _ _ _
 have t0:=HK.blk_cell h94 0
 have t1:=HK.blk_cell h94 1
 have t2:=HK.blk_cell h94 2
 have t3:=HK.blk_cell h94 3
 have t4:=HK.blk_cell h94 4
 have t5:=HK.blk_cell h94 5
 have t6:=HK.blk_cell h94 6
 have HB9:=hid hB9
 clear h94 hB9 hbw hW9 k4 f4
 refine bodyPost_ret (v:=.tuple #[.agg #[.int .u8 0,.int .i64 0,.slice none 0 0,.int .i64 0,.slice none 0 0,.slice none 0 0,.slice none 0 0],.int .i64 2]) (by simp [results,Tryd.results30,go_sem,t0,t1,t2,t3,t4,t5,t6]) rfl ?_
 exact ⟨HB9.out,rfl⟩
set_option maxRecDepth 100000 in
set_option maxHeartbeats 4000000 in
theorem part_low (w:World) (kind:Nat) (size loop wd:Int) (ra fa ua ba:Option Addr) (rn rc fn fc un uc bn bc:Nat) (hw:wd < 0)
  (hV:∀ W,Below w.heap.size w W -> Calls Tryd.prog 18 #[.agg #[.int .u8 (kind:Int),.int .i64 size,.slice ra rn rc,.int .i64 loop,.slice fa fn fc,.slice ua un uc,.slice ba bn bc]] W (RetW W true)) :
  Calls Tryd.prog 30 #[.agg #[.int .u8 (kind:Int),.int .i64 size,.slice ra rn rc,.int .i64 loop,.slice fa fn fc,.slice ua un uc,.slice ba bn bc],.int .i64 wd] w (RetPn w 6):=by
 have HV:=hid hV
 clear hV
 go_enter Tryd.func30,Tryd.ntmps30
 go_upto_region 1 with (fail)
 obtain ⟨A0,hA0⟩:∃ A,A = (w.alloc (.cells #[.int .u8 (kind:Int),.int .i64 size,.slice ra rn rc,.int .i64 loop,.slice fa fn fc,.slice ua un uc,.slice ba bn bc] 30)).alloc (.cells #[.int .u8 0,.int .i64 0,.slice none 0 0,.int .i64 0,.slice none 0 0,.slice none 0 0,.slice none 0 0] 30):=⟨_,rfl⟩
 have hb0:Below w.heap.size w A0:=by rw [hA0]; exact ((Below.refl _ w).alloc (Nat.le_refl _) _).alloc (by simp) _
 have hm0:A0.heap[w.heap.size]? = some (.cells #[.int .u8 (kind:Int),.int .i64 size,.slice ra rn rc,.int .i64 loop,.slice fa fn fc,.slice ua un uc,.slice ba bn bc] 30 (0,0)):=by rw [hA0]; exact HK.blk_alloc (HK.blk_new _ _) _
 have hm1:A0.heap[w.heap.size + 1]? = some (.cells #[.int .u8 0,.int .i64 0,.slice none 0 0,.int .i64 0,.slice none 0 0,.slice none 0 0,.slice none 0 0] 30 (0,0)):=by
  rw [hA0]
  have:=HK.blk_new (w.alloc (.cells #[.int .u8 (kind:Int),.int .i64 size,.slice ra rn rc,.int .i64 loop,.slice fa fn fc,.slice ua un uc,.slice ba bn bc] 30)) (.cells #[.int .u8 0,.int .i64 0,.slice none 0 0,.int .i64 0,.slice none 0 0,.slice none 0 0,.slice none 0 0] 30)
  simpa using this
 rw [<- hA0]
 have HB0:=hid hb0
 have HM0:=hid hm0
 have HM1:=hid hm1
 have c0:=fun i => HK.blk_cell hm0 i
 clear hA0 hb0 hm0 hm1
 go_upto_region 4 with (go_at_call 18; ((with_reducible refine (HV.out _ HB0.out).mono ?_); rintro e w1 ⟨rfl,hB1⟩); have HB1:=hid hB1; have p1:=HK.blk_cell ((hB1.block _ (HK.blk_lt HM0.out)).trans HM0.out) 1; clear hB1)
 have hm4:=(HB1.out.block _ (HK.blk_lt HM1.out)).trans HM1.out
 have k4:=fun i => HK.blk_cell hm4 i
 have f4:=fun i => HK.blk_frozen hm4 i
 have HM4:=hid hm4
 clear hm4
 go_wp2_with (fail)
 obtain ⟨W9,hW9⟩:∃ X,X = (((((((w1.setCell ⟨w.heap.size + 1,0,none⟩ (.int .u8 0)).setCell ⟨w.heap.size + 1,1,none⟩ (.int .i64 0)).setCell ⟨w.heap.size + 1,2,none⟩ (.slice none 0 0)).setCell ⟨w.heap.size + 1,3,none⟩ (.int .i64 0)).setCell ⟨w.heap.size + 1,4,none⟩ (.slice none 0 0)).setCell ⟨w.heap.size + 1,5,none⟩ (.slice none 0 0)).setCell ⟨w.heap.size + 1,6,none⟩ (.slice none 0 0)):=⟨_,rfl⟩
 rw [<- hW9]
 have h94:W9.heap[w.heap.size + 1]? = some (.cells #[.int .u8 0,.int .i64 0,.slice none 0 0,.int .i64 0,.slice none 0 0,.slice none 0 0,.slice none 0 0] 30 (0,0)):=by
  rw [hW9]
  exact put7_same HM4.out rfl _ _ _ _ _ _ _
 have hbw:Below w.heap.size w w1:=HB0.out.trans (HB1.out.mono HB0.out.size)
 have hB9:Below w.heap.size w W9:=by
  rw [hW9]
  exact put7_below hbw (by omega) _ _ _ _ _ _ _
 have t0:=HK.blk_cell h94 0
 have t1:=HK.blk_cell h94 1
 have t2:=HK.blk_cell h94 2
 have t3:=HK.blk_cell h94 3
 have t4:=HK.blk_cell h94 4
 have t5:=HK.blk_cell h94 5
 have t6:=HK.blk_cell h94 6
 have HB9:=hid hB9
 clear h94 hB9 hbw hW9 k4 f4
 refine bodyPost_ret (v:=.tuple #[.agg #[.int .u8 0,.int .i64 0,.slice none 0 0,.int .i64 0,.slice none 0 0,.slice none 0 0,.slice none 0 0],.int .i64 6]) (by simp [results,Tryd.results30,go_sem,t0,t1,t2,t3,t4,t5,t6]) rfl ?_
 exact ⟨HB9.out,rfl⟩
set_option maxRecDepth 100000 in
set_option maxHeartbeats 4000000 in
theorem part_high (w:World) (kind:Nat) (size loop wd:Int) (ra fa ua ba:Option Addr) (rn rc fn fc un uc bn bc:Nat) (hw0:¬ wd < 0) (hw:size <= wd)
  (hV:∀ W,Below w.heap.size w W -> Calls Tryd.prog 18 #[.agg #[.int .u8 (kind:Int),.int .i64 size,.slice ra rn rc,.int .i64 loop,.slice fa fn fc,.slice ua un uc,.slice ba bn bc]] W (RetW W true)) :
  Calls Tryd.prog 30 #[.agg #[.int .u8 (kind:Int),.int .i64 size,.slice ra rn rc,.int .i64 loop,.slice fa fn fc,.slice ua un uc,.slice ba bn bc],.int .i64 wd] w (RetPn w 6):=by
 have HV:=hid hV
 clear hV
 go_enter Tryd.func30,Tryd.ntmps30
 go_upto_region 1 with (fail)
 obtain ⟨A0,hA0⟩:∃ A,A = (w.alloc (.cells #[.int .u8 (kind:Int),.int .i64 size,.slice ra rn rc,.int .i64 loop,.slice fa fn fc,.slice ua un uc,.slice ba bn bc] 30)).alloc (.cells #[.int .u8 0,.int .i64 0,.slice none 0 0,.int .i64 0,.slice none 0 0,.slice none 0 0,.slice none 0 0] 30):=⟨_,rfl⟩
 have hb0:Below w.heap.size w A0:=by rw [hA0]; exact ((Below.refl _ w).alloc (Nat.le_refl _) _).alloc (by simp) _
 have hm0:A0.heap[w.heap.size]? = some (.cells #[.int .u8 (kind:Int),.int .i64 size,.slice ra rn rc,.int .i64 loop,.slice fa fn fc,.slice ua un uc,.slice ba bn bc] 30 (0,0)):=by rw [hA0]; exact HK.blk_alloc (HK.blk_new _ _) _
 have hm1:A0.heap[w.heap.size + 1]? = some (.cells #[.int .u8 0,.int .i64 0,.slice none 0 0,.int .i64 0,.slice none 0 0,.slice none 0 0,.slice none 0 0] 30 (0,0)):=by
  rw [hA0]
  have:=HK.blk_new (w.alloc (.cells #[.int .u8 (kind:Int),.int .i64 size,.slice ra rn rc,.int .i64 loop,.slice fa fn fc,.slice ua un uc,.slice ba bn bc] 30)) (.cells #[.int .u8 0,.int .i64 0,.slice none 0 0,.int .i64 0,.slice none 0 0,.slice none 0 0,.slice none 0 0] 30)
  simpa using this
 rw [<- hA0]
 have HB0:=hid hb0
 have HM0:=hid hm0
 have HM1:=hid hm1
 have c0:=fun i => HK.blk_cell hm0 i
 clear hA0 hb0 hm0 hm1
 go_upto_region 4 with (go_at_call 18; ((with_reducible refine (HV.out _ HB0.out).mono ?_); rintro e w1 ⟨rfl,hB1⟩); have HB1:=hid hB1; have p1:=HK.blk_cell ((hB1.block _ (HK.blk_lt HM0.out)).trans HM0.out) 1; clear hB1)
 have hm4:=(HB1.out.block _ (HK.blk_lt HM1.out)).trans HM1.out
 have k4:=fun i => HK.blk_cell hm4 i
 have f4:=fun i => HK.blk_frozen hm4 i
 have HM4:=hid hm4
 clear hm4
 go_wp2_with (fail)
 obtain ⟨W9,hW9⟩:∃ X,X = (((((((w1.setCell ⟨w.heap.size + 1,0,none⟩ (.int .u8 0)).setCell ⟨w.heap.size + 1,1,none⟩ (.int .i64 0)).setCell ⟨w.heap.size + 1,2,none⟩ (.slice none 0 0)).setCell ⟨w.heap.size + 1,3,none⟩ (.int .i64 0)).setCell ⟨w.heap.size + 1,4,none⟩ (.slice none 0 0)).setCell ⟨w.heap.size + 1,5,none⟩ (.slice none 0 0)).setCell ⟨w.heap.size + 1,6,none⟩ (.slice none 0 0)):=⟨_,rfl⟩
 rw [<- hW9]
 have h94:W9.heap[w.heap.size + 1]? = some (.cells #[.int .u8 0,.int .i64 0,.slice none 0 0,.int .i64 0,.slice none 0 0,.slice none 0 0,.slice none 0 0] 30 (0,0)):=by
  rw [hW9]
  exact put7_same HM4.out rfl _ _ _ _ _ _ _
 have hbw:Below w.heap.size w w1:=HB0.out.trans (HB1.out.mono HB0.out.size)
 have hB9:Below w.heap.size w W9:=by
  rw [hW9]
  exact put7_below hbw (by omega) _ _ _ _ _ _ _
 have t0:=HK.blk_cell h94 0
 have t1:=HK.blk_cell h94 1
 have t2:=HK.blk_cell h94 2
 have t3:=HK.blk_cell h94 3
 have t4:=HK.blk_cell h94 4
 have t5:=HK.blk_cell h94 5
 have t6:=HK.blk_cell h94 6
 have HB9:=hid hB9
 clear h94 hB9 hbw hW9 k4 f4
 refine bodyPost_ret (v:=.tuple #[.agg #[.int .u8 0,.int .i64 0,.slice none 0 0,.int .i64 0,.slice none 0 0,.slice none 0 0,.slice none 0 0],.int .i64 6]) (by simp [results,Tryd.results30,go_sem,t0,t1,t2,t3,t4,t5,t6]) rfl ?_
 exact ⟨HB9.out,rfl⟩
theorem nth_size (w:World) (kind mask:Nat) (n i:Int) (hk:kind < 256) (hm:mask < 256) (hn:-9223372036854775808 <= n /\ n <= 9223372036854775807) (hw:wrongB kind mask n = true):Calls Tryd.prog 33 #[.int .u8 (kind:Int),.int .u8 (mask:Int),.slice none 0 0,.int .i64 n,.int .i64 i] w (RetNx w 2) :=
 nth_err w kind mask 0 0 none n i 2 (by omega) fun W _ => (count_nil W kind mask n hk hm hn).mono fun e w' h => by
  unfold RetCount at h
  rw [if_pos (.inl hw)] at h
  exact ⟨h.1,0,h.2⟩
set_option maxRecDepth 100000 in
theorem one_world:sumK true 1 0 (relsL true 0 1) = 1:=by decide +kernel
theorem nth_one (w:World) (i:Nat) (h1:1 <= i) (hi:i <= 9223372036854775807):Calls Tryd.prog 33 #[.int .u8 3,.int .u8 0,.slice none 0 0,.int .i64 1,.int .i64 (i:Int)] w (RetNx w 6):=by
 have hc:countS true 0 0 1 = 1:=by unfold countS; rw [one_world]; rfl
 have h:=nth_call w 3 1 0 i 0 0 1 none [] (by omega) (by omega) (by omega) (by omega) hi (by omega) rfl (fun t s hs => by cases hs)
  (fun W _ => (count_nil W 3 0 1 (by omega) (by omega) (by omega)).mono fun e w' h => by
   unfold RetCount at h
   rw [if_neg (by decide),show decide ((3:Nat) = 3) = true from rfl,show ([]:List ByteArray).length = 0 from rfl,show (1:Int).toNat = 1 from rfl,hc,if_neg (by omega)] at h
   exact h) (by rw [show decide ((3:Nat) = 3) = true from rfl,hc]; omega)
 refine h.mono ?_
 rintro e w' ⟨hB,⟨_,rfl⟩ | ⟨rel,j,v,hp,_⟩⟩
 ·exact ⟨hB,rfl⟩
 ·exfalso
  have:pick (waysR (decide ((3:Nat) = 3)) 1 0) (relsL (decide ((3:Nat) = 3)) 0 1) i = none:=pick_none.2 (by rw [<- sumK_sumW,show decide ((3:Nat) = 3) = true from rfl,one_world]; exact h1)
  rw [this] at hp
  cases hp
end Go.Proofs.YtflmllablfjfeaaDoor
