import Derived.Test.YtdobflpbkfkmgaaGreatDoorLexZ
import Derived.Test.YtdobflpbkfkmgaaGreatDoorKit
import Derived.Outline
import Derived.RangeFuncNested
import Derived.RangeFuncBound
import Derived.RangeFuncCalls
import Derived.RangeFuncLeaves
import Derived.RangeFuncBox
import Derived.Shelf.Abstract
import Derived.Shelf.RegionOpen
import Derived.OwnWalkIn
import Derived.TacticsInMore
import Derived.LoopNIn
import Derived.LoopIn
import Derived.Sort.QuietIn
namespace Go.Proofs.YtdobflpbkfkmgaaGreatDoor
open Go.RowKit Lib
set_option linter.unusedVariables false
set_option linter.unusedSimpArgs false
set_option linter.unusedSectionVars false
def readS (s:ByteArray) (i:Nat):KT :=
 if letterB (bt s i) then runR (s.extract i (spanE s (i + 1)))
 else if markB (bt s i) then markR (s.extract i (spanE s (i + 1)))
 else signR (s.extract i s.size)
theorem bys_extract (s:ByteArray) (i j:Nat):bys (s.extract i j) = ((bys s).drop i).take (j - i):=by
 simp [bys,ByteArray.data_extract,Array.toList_extract,List.extract_eq_take_drop]
theorem spanE_L (s:ByteArray):∀ (n i:Nat),s.size - i <= n -> i <= s.size -> spanE s i = i + (((bys s).drop i).takeWhile alL).length
 | n,i,hn,hi => by
  by_cases h:i < s.size
  ·have hd:(bys s).drop i = (bys s)[i]'h :: (bys s).drop (i + 1):=List.drop_eq_getElem_cons h
   have hb:bt s i = ((bys s)[i]'h).toNat:=by rw [<- bt_eq h]; rfl
   cases ha:alnumB (bt s i) with
   | true =>
    have hal:alL ((bys s)[i]'h) = true:=by rw [<- ha,hb]; rfl
    cases n with
    | zero => omega
    | succ n =>
     rw [spanE_yes h ha,spanE_L s n (i + 1) (by omega) (by omega),hd,List.takeWhile_cons,if_pos hal,List.length_cons]
     omega
   | false =>
    have hal:alL ((bys s)[i]'h) = false:=by rw [<- ha,hb]; rfl
    rw [spanE_no (fun hh => by rw [ha] at hh; cases hh.2),hd,List.takeWhile_cons,hal]
    rfl
  ·rw [spanE_no (fun hh => h hh.1),List.drop_eq_nil_of_le (show (bys s).length <= i by show s.size <= i; omega)]
   rfl
theorem readS_L {s:ByteArray} {i:Nat} (h:i < s.size):∃ c l,(bys s).drop i = c :: l /\ readS s i = readL c l /\ bt s i = c.toNat:=by
 have hd:(bys s).drop i = (bys s)[i]'h :: (bys s).drop (i + 1):=List.drop_eq_getElem_cons h
 have hb:bt s i = ((bys s)[i]'h).toNat:=by rw [<- bt_eq h]; rfl
 refine ⟨_,_,hd,?_,hb⟩
 have hx:s.extract i (spanE s (i + 1)) = mkS ((bys s)[i]'h :: ((bys s).drop (i + 1)).takeWhile alL):=by
  rw [<- mk_bys (s.extract i (spanE s (i + 1))),bys_extract,spanE_L s _ (i + 1) (Nat.le_refl _) (by omega),hd,show i + 1 + (((bys s).drop (i + 1)).takeWhile alL).length - i = (((bys s).drop (i + 1)).takeWhile alL).length + 1 by omega,List.take_succ_cons]
  congr 2
  have:=List.takeWhile_append_dropWhile (p:=alL) (l:=(bys s).drop (i + 1))
  conv => lhs; rw [<- this]
  rw [List.takeWhile_append_dropWhile]
  conv => lhs; arg 2; rw [<- this]
  rw [List.take_left]
 have hy:s.extract i s.size = mkS ((bys s)[i]'h :: (bys s).drop (i + 1)):=by
  rw [<- mk_bys (s.extract i s.size),bys_extract,<- hd,List.take_of_length_le]
  rw [List.length_drop]; exact Nat.le_refl _
 unfold readS readL
 rw [hb,hx,hy]
theorem readL_none {c:UInt8} {l:List UInt8} (h:(readL c l).e ≠ 0):(readL c l).t = ⟨#[]⟩ /\ (readL c l).k = 0:=by
 unfold readL at h ⊢
 split
 ·rename_i h1; rw [if_pos h1] at h
  rcases runR_e (mkS (c :: l.takeWhile alL)) with h2 | h2
  ·exact absurd h2 h
  ·rw [h2]; exact ⟨rfl,rfl⟩
 ·rename_i h1; rw [if_neg h1] at h
  split
  ·rename_i h3; rw [if_pos h3] at h
   rcases markR_e (mkS (c :: l.takeWhile alL)) with h2 | h2
   ·exact absurd h2 h
   ·rw [h2]; exact ⟨rfl,rfl⟩
  ·rename_i h3; rw [if_neg h3] at h
   rw [signR_L] at h ⊢
   split
   ·rename_i h4; rw [h4] at h; exact absurd rfl h
   ·exact ⟨rfl,rfl⟩
theorem readS_le {s:ByteArray} {i:Nat} (h:i < s.size):(readS s i).t.size <= s.size - i:=by
 obtain ⟨c,l,h1,h2,_⟩:=readS_L h
 rw [h2]
 by_cases he:(readL c l).e = 0
 ·obtain ⟨r,hr⟩:=read_ok he
  have h3:=congrArg List.length hr.all
  rw [List.length_append,show (bys (readL c l).t).length = (readL c l).t.size from rfl,<- h1,List.length_drop] at h3
  have:(bys s).length = s.size:=rfl
  omega
 ·rw [(readL_none he).1]; exact Nat.zero_le _
def Chg (b:Nat) (w w':World):Prop:=HK.Frm (fun k => k = b) w w'
def RetN (w:World) (b at_:Nat) (s:ByteArray) (r:KT) (e:Ending) (w':World):Prop :=
 e = .returned (.tuple #[.agg #[.int .u8 r.k,.string r.t,.int .i64 at_],.int .i64 r.e]) /\ Scan w' b (at_ + r.t.size) s /\ Chg b w w'
def tokBox:Obj:=.cells #[.int .u8 0,.string ⟨#[]⟩,.int .i64 0] 86 (0,0)
set_option maxRecDepth 100000 in
theorem any1_any (w:World) (c:Int):Calls Tryz.prog 132 #[.int .u8 c] w (RetC w true):=by
 go_enter Tryz.func132,Tryz.ntmps132
 go_wp2
 go_ret
 exact ⟨rfl,rfl⟩
def NextI (w:World) (b at_ k:Nat) (s:ByteArray) (wr:World):Prop :=
 Below w.heap.size w wr /\ wr.heap[w.heap.size]? = some tokBox /\ (1 <= k -> letterB (bt s at_) = false) /\ (2 <= k -> markB (bt s at_) = false)
set_option maxRecDepth 100000 in
theorem start_index (b:Nat) (w:World) (k:Nat):(k = 0 -> (Instr.index 150 (.agg (startsV b)) (.int .i64 0)).run Tryz.prog w = .ok (.agg #[.func (.func 128) #[] #[],.func (.func 129) #[.pointer (some ⟨b,0,none⟩)] #[]]) w) /\
 (k = 1 -> (Instr.index 150 (.agg (startsV b)) (.int .i64 1)).run Tryz.prog w = .ok (.agg #[.func (.func 130) #[] #[],.func (.func 131) #[.pointer (some ⟨b,0,none⟩)] #[]]) w) /\
 (k = 2 -> (Instr.index 150 (.agg (startsV b)) (.int .i64 2)).run Tryz.prog w = .ok (.agg #[.func (.func 132) #[] #[],.func (.func 133) #[.pointer (some ⟨b,0,none⟩)] #[]]) w):=⟨fun _ => rfl,fun _ => rfl,fun _ => rfl⟩
structure After (w:World) (b at_:Nat) (s:ByteArray) (w3:World):Prop where
 hB:Below w.heap.size w w3
 hT:w3.heap[w.heap.size]? = some tokBox
 hS:Scan w3 b at_ s
 hb:b < w3.heap.size
 hbw:b < w.heap.size
theorem After.mk' {w w3:World} {b at_:Nat} {s:ByteArray} (h:Scan w b at_ s) (hB:Below w.heap.size w w3) (hT:w3.heap[w.heap.size]? = some tokBox):After w b at_ s w3 :=
 ⟨hB,hT,h.below hB,HK.blk_lt (h.below hB).h,HK.blk_lt h.h⟩
section
variable {w w3:World} {b at_:Nat} {s:ByteArray} (h:After w b at_ s w3)
include h
theorem After.e0:w3.cell? ⟨b,0,none⟩ = some (.int .i64 at_):=h.hS.c0
theorem After.e1 (o:Obj):(w3.alloc o).cell? ⟨b,0,none⟩ = some (.int .i64 at_):=HK.blk_cell (HK.blk_alloc h.hS.h o) 0
theorem After.e2 (o:Obj):(w3.alloc o).frozen? ⟨b,0,none⟩ = false:=HK.blk_frozen (HK.blk_alloc h.hS.h o) 0
theorem After.e3 (o:Obj) (v:Value) (i:Nat):((w3.alloc o).setCell ⟨b,0,none⟩ v).cell? ⟨w3.heap.size,i,none⟩ = (w3.alloc o).cell? ⟨w3.heap.size,i,none⟩:=by
 unfold World.cell?
 rw [Below.heap_setCell _ _ _ _ (by have:=h.hb; show w3.heap.size ≠ b; omega)]
theorem After.hT' (o:Obj) (v:Value):((w3.alloc o).setCell ⟨b,0,none⟩ v).heap[w.heap.size]? = some tokBox :=
 HK.blk_set_other (HK.blk_alloc h.hT o) (p:=⟨b,0,none⟩) (by have:=h.hbw; show w.heap.size ≠ b; omega) v
theorem After.e4 (o:Obj) (v:Value) (i:Nat):((w3.alloc o).setCell ⟨b,0,none⟩ v).cell? ⟨w.heap.size,i,none⟩ = #[Value.int .u8 0,.string ⟨#[]⟩,.int .i64 0][i]?:=HK.blk_cell (h.hT' o v) i
theorem After.e5 (o:Obj) (v:Value) (i:Nat):((w3.alloc o).setCell ⟨b,0,none⟩ v).frozen? ⟨w.heap.size,i,none⟩ = false:=HK.blk_frozen (h.hT' o v) i
theorem After.g0 (o:Obj) (v u0:Value):(((w3.alloc o).setCell ⟨b,0,none⟩ v).setCell ⟨w.heap.size,0,none⟩ u0).cell? ⟨w.heap.size,0,none⟩ = some u0:=HK.blk_cell (HK.blk_set (h.hT' o v) 0 u0) 0
theorem After.g1 (o:Obj) (v u0 u1:Value):((((w3.alloc o).setCell ⟨b,0,none⟩ v).setCell ⟨w.heap.size,0,none⟩ u0).setCell ⟨w.heap.size,1,none⟩ u1).cell? ⟨w.heap.size,1,none⟩ = some u1:=HK.blk_cell (HK.blk_set (HK.blk_set (h.hT' o v) 0 u0) 1 u1) 1
theorem After.g2 (o:Obj) (v u0 u1 u2:Value):(((((w3.alloc o).setCell ⟨b,0,none⟩ v).setCell ⟨w.heap.size,0,none⟩ u0).setCell ⟨w.heap.size,1,none⟩ u1).setCell ⟨w.heap.size,2,none⟩ u2).cell? ⟨w.heap.size,2,none⟩ = some u2:=HK.blk_cell (HK.blk_set (HK.blk_set (HK.blk_set (h.hT' o v) 0 u0) 1 u1) 2 u2) 2
theorem After.fin (o:Obj) (n:Nat) (u0 u1 u2:Value):Scan (((((w3.alloc o).setCell ⟨b,0,none⟩ (.int .i64 n)).setCell ⟨w.heap.size,0,none⟩ u0).setCell ⟨w.heap.size,1,none⟩ u1).setCell ⟨w.heap.size,2,none⟩ u2) b n s /\
  Chg b w (((((w3.alloc o).setCell ⟨b,0,none⟩ (.int .i64 n)).setCell ⟨w.heap.size,0,none⟩ u0).setCell ⟨w.heap.size,1,none⟩ u1).setCell ⟨w.heap.size,2,none⟩ u2):=by
 have hne:b ≠ w.heap.size:=by have:=h.hbw; omega
 refine ⟨⟨HK.blk_set_other (HK.blk_set_other (HK.blk_set_other (HK.blk_set (HK.blk_alloc h.hS.h o) 0 (.int .i64 n)) (p:=⟨w.heap.size,0,none⟩) hne _) (p:=⟨w.heap.size,1,none⟩) hne _) (p:=⟨w.heap.size,2,none⟩) hne _⟩,?_⟩
 exact (((((HK.Frm.of_below h.hB (fun k => k = b)).alloc o).setCell (p:=⟨b,0,none⟩) (.inl rfl) _).setCell (p:=⟨w.heap.size,0,none⟩) (.inr (Nat.le_refl _)) _).setCell (p:=⟨w.heap.size,1,none⟩) (.inr (Nat.le_refl _)) _).setCell (p:=⟨w.heap.size,2,none⟩) (.inr (Nat.le_refl _)) _
end
def RetA (w:World) (b at_:Nat) (s:ByteArray) (r:KT) (e:Ending) (w':World):Prop:=e = .returned (.tuple #[.int .u8 r.k,.string r.t,.int .i64 r.e]) /\ After w b at_ s w'
theorem RetK.after {w wr:World} {b at_:Nat} {s:ByteArray} {r:KT} {e:Ending} {w':World} (h:Scan w b at_ s) (hB:Below w.heap.size w wr) (hT:wr.heap[w.heap.size]? = some tokBox) (hr:RetK wr r e w'):RetA w b at_ s r e w' :=
 ⟨hr.1,.mk' h (hB.trans (hr.2.mono hB.size)) ((hr.2.block _ (HK.blk_lt hT)).trans hT)⟩
set_option maxRecDepth 100000 in
set_option maxHeartbeats 2000000 in
theorem next_any (w:World) (b at_:Nat) (s:ByteArray) (h:Scan w b at_ s) (hs:s.size <= maxLen) (ha:at_ < s.size) (hG:Signs w) :
  Calls Tryz.prog 109 #[.pointer (some ⟨b,0,none⟩)] w (RetN w b at_ s (readS s at_)):=by
 have H:=hid h
 have HG:=hid hG
 have hbl:b < w.heap.size:=HK.blk_lt h.h
 have hs':=hs
 unfold maxLen at hs'
 have hRt:=readS_le ha
 obtain ⟨R,hR⟩:∃ R,readS s at_ = R:=⟨_,rfl⟩
 rw [hR] at hRt ⊢
 have HR:=hid hR
 clear h hG hR
 go_enter Tryz.func109,Tryz.ntmps109
 go_wp2_with (go_at_call 124; (refine (starts_any _ b).mono ?_; rintro e w1 ⟨rfl,hb1⟩))
 go_loopw [12] (fun i wr => ∃ k:Nat,k <= 2 /\ i = .int .i64 k /\ NextI w b at_ k s wr) (fun i _ => 3 - (intOf i).toNat)
 case atStart =>
  refine ⟨0,by omega,rfl,?_,?_,by omega,by omega⟩
  ·exact (((Below.refl _ w).alloc (Nat.le_refl _) _).trans (hb1.mono (by simp)))
  ·refine (hb1.block _ (by simp)).trans ?_
   exact HK.blk_new _ _
 case round =>
  obtain ⟨k,hk,rfl,hI⟩:=hrel
  have HI:=hid hI
  clear hI
  obtain rfl | rfl | rfl:k = 0 ∨ k = 1 ∨ k = 2:=by omega
  ·have hix:=(start_index b wr 0).1 rfl
   have hS:Scan wr b at_ s:=H.out.below HI.out.1
   have hbw:b < wr.heap.size:=HK.blk_lt hS.h
   have c0:∀ o,(wr.alloc o).cell? ⟨b,0,none⟩ = some (.int .i64 at_):=fun o => (HK.blk_cell (HK.blk_alloc hS.h o) 0)
   have c1:∀ o,(wr.alloc o).cell? ⟨b,1,none⟩ = some (.string s):=fun o => (HK.blk_cell (HK.blk_alloc hS.h o) 1)
   have b0:(0:Int) <= (at_:Int):=by omega
   have b1:(at_:Int) < (s.size:Int):=by omega
   have HS:=hid hS
   clear hS
   have hq:=fun w' => letter_any w' ((s[at_]'ha).toNat) (by rw [bt_eq]; exact bt_le s at_)
   cases hal:letterB (bt s at_) with
   | false =>
    have HAL:=hid hal
    have HQ:Hid (∀ w',Calls Tryz.prog 128 #[.int .u8 ((s[at_]'ha).toNat:Nat)] w' (RetC w' false)):=hid (fun w' => by have:=hq w'; rw [bt_eq ha,hal] at this; rw [bt_eq ha]; exact this)
    clear hq hal
    go_wp2_with (fail)
    go_quiet ((go_at_call 128; exact Calls.quiet_of_same ((HQ.out _).mono fun _ _ h => ⟨h.1,h.2.symm⟩)))
    go_wp2_with (fail)
    go_roundw
    case rel => exact ⟨1,by omega,by go_num,below_drewN (HI.out.1.alloc HI.out.1.size _) _,HK.blk_drewN (HK.blk_alloc HI.out.2.1 _) _,fun _ => HAL.out,by omega⟩
    case measure => simp [intOf]
   | true =>
    have HAL:=hid hal
    have HQ:Hid (∀ w',Calls Tryz.prog 128 #[.int .u8 ((s[at_]'ha).toNat:Nat)] w' (RetC w' true)):=hid (fun w' => by have:=hq w'; rw [bt_eq ha,hal] at this; rw [bt_eq ha]; exact this)
    clear hq hal
    go_wp2_with (fail)
    go_quiet ((go_at_call 128; exact Calls.quiet_of_same ((HQ.out _).mono fun _ _ h => ⟨h.1,h.2.symm⟩)))
    have hrun:∀ w',Below w.heap.size w w' -> w'.heap[w.heap.size]? = some tokBox -> Calls Tryz.prog 129 #[.pointer (some ⟨b,0,none⟩)] w' (RetA w b at_ s R):=fun w' hB hT => by
     have:=run_any w' b at_ s (H.out.below hB) hs (by omega)
     rw [show runR (s.extract at_ (spanE s (at_ + 1))) = R by rw [<- HR.out,readS,if_pos HAL.out]] at this
     exact this.mono fun _ _ hr => hr.after H.out hB hT
    have HRUN:=hid hrun
    clear hrun
    go_wp2_with (first
     | (go_at_call 129; (refine (HRUN.out _ (below_drewN (HI.out.1.alloc HI.out.1.size _) _) (HK.blk_drewN (HK.blk_alloc HI.out.2.1 _) _)).mono ?_; rintro e w3 ⟨rfl,hA⟩; have e0:=hA.e0; have e1:=hA.e1; have e2:=hA.e2; have e3:=hA.e3; have e4:=hA.e4; have e5:=hA.e5)))
    refine bodyPost_ret (v:=.tuple #[.agg #[.int .u8 R.k,.string R.t,.int .i64 at_],.int .i64 R.e]) ?_ rfl ?_
    ·have g0:=hA.g0; have g1:=hA.g1; have g2:=hA.g2
     simp [results,Tryz.results109,go_sem,g0,g1,g2]
    ·exact ⟨rfl,by have:=hA.fin (.cells #[.int .u8 R.k,.string R.t,.int .i64 at_] 86) (at_ + R.t.size) (.int .u8 R.k) (.string R.t) (.int .i64 at_); rw [show ((at_ + R.t.size:Nat):Int) = (at_:Int) + (R.t.size:Int) by omega] at this; exact this⟩
  ·have hix:=(start_index b wr 1).2.1 rfl
   have hS:Scan wr b at_ s:=H.out.below HI.out.1
   have hbw:b < wr.heap.size:=HK.blk_lt hS.h
   have c0:∀ o,(wr.alloc o).cell? ⟨b,0,none⟩ = some (.int .i64 at_):=fun o => (HK.blk_cell (HK.blk_alloc hS.h o) 0)
   have c1:∀ o,(wr.alloc o).cell? ⟨b,1,none⟩ = some (.string s):=fun o => (HK.blk_cell (HK.blk_alloc hS.h o) 1)
   have b0:(0:Int) <= (at_:Int):=by omega
   have b1:(at_:Int) < (s.size:Int):=by omega
   have HS:=hid hS
   clear hS
   have hq:=fun w' => mark1_any w' ((s[at_]'ha).toNat) (by rw [bt_eq]; exact bt_le s at_)
   cases hal:markB (bt s at_) with
   | false =>
    have HAL:=hid hal
    have HQ:Hid (∀ w',Calls Tryz.prog 130 #[.int .u8 ((s[at_]'ha).toNat:Nat)] w' (RetC w' false)):=hid (fun w' => by have:=hq w'; rw [bt_eq ha,hal] at this; rw [bt_eq ha]; exact this)
    clear hq hal
    go_wp2_with (fail)
    go_quiet ((go_at_call 130; exact Calls.quiet_of_same ((HQ.out _).mono fun _ _ h => ⟨h.1,h.2.symm⟩)))
    go_wp2_with (fail)
    go_roundw
    case rel => exact ⟨2,by omega,by go_num,below_drewN (HI.out.1.alloc HI.out.1.size _) _,HK.blk_drewN (HK.blk_alloc HI.out.2.1 _) _,fun _ => HI.out.2.2.1 (by omega),fun _ => HAL.out⟩
    case measure => simp [intOf]
   | true =>
    have HAL:=hid hal
    have HQ:Hid (∀ w',Calls Tryz.prog 130 #[.int .u8 ((s[at_]'ha).toNat:Nat)] w' (RetC w' true)):=hid (fun w' => by have:=hq w'; rw [bt_eq ha,hal] at this; rw [bt_eq ha]; exact this)
    clear hq hal
    go_wp2_with (fail)
    go_quiet ((go_at_call 130; exact Calls.quiet_of_same ((HQ.out _).mono fun _ _ h => ⟨h.1,h.2.symm⟩)))
    have hrun:∀ w',Below w.heap.size w w' -> w'.heap[w.heap.size]? = some tokBox -> Calls Tryz.prog 131 #[.pointer (some ⟨b,0,none⟩)] w' (RetA w b at_ s R):=fun w' hB hT => by
     have:=mark_any w' b at_ s (H.out.below hB) hs (by omega)
     rw [show markR (s.extract at_ (spanE s (at_ + 1))) = R by rw [<- HR.out,readS,if_neg (by rw [HI.out.2.2.1 (by omega)]; decide),if_pos HAL.out]] at this
     exact this.mono fun _ _ hr => hr.after H.out hB hT
    have HRUN:=hid hrun
    clear hrun
    go_wp2_with (first
     | (go_at_call 131; (refine (HRUN.out _ (below_drewN (HI.out.1.alloc HI.out.1.size _) _) (HK.blk_drewN (HK.blk_alloc HI.out.2.1 _) _)).mono ?_; rintro e w3 ⟨rfl,hA⟩; have e0:=hA.e0; have e1:=hA.e1; have e2:=hA.e2; have e3:=hA.e3; have e4:=hA.e4; have e5:=hA.e5)))
    refine bodyPost_ret (v:=.tuple #[.agg #[.int .u8 R.k,.string R.t,.int .i64 at_],.int .i64 R.e]) ?_ rfl ?_
    ·have g0:=hA.g0; have g1:=hA.g1; have g2:=hA.g2
     simp [results,Tryz.results109,go_sem,g0,g1,g2]
    ·exact ⟨rfl,by have:=hA.fin (.cells #[.int .u8 R.k,.string R.t,.int .i64 at_] 86) (at_ + R.t.size) (.int .u8 R.k) (.string R.t) (.int .i64 at_); rw [show ((at_ + R.t.size:Nat):Int) = (at_:Int) + (R.t.size:Int) by omega] at this; exact this⟩
  ·have hix:=(start_index b wr 2).2.2 rfl
   have hS:Scan wr b at_ s:=H.out.below HI.out.1
   have hbw:b < wr.heap.size:=HK.blk_lt hS.h
   have c0:∀ o,(wr.alloc o).cell? ⟨b,0,none⟩ = some (.int .i64 at_):=fun o => (HK.blk_cell (HK.blk_alloc hS.h o) 0)
   have c1:∀ o,(wr.alloc o).cell? ⟨b,1,none⟩ = some (.string s):=fun o => (HK.blk_cell (HK.blk_alloc hS.h o) 1)
   have b0:(0:Int) <= (at_:Int):=by omega
   have b1:(at_:Int) < (s.size:Int):=by omega
   have HS:=hid hS
   clear hS
   have HQ:Hid (∀ w',Calls Tryz.prog 132 #[.int .u8 ((s[at_]'ha).toNat:Nat)] w' (RetC w' true)):=hid (fun w' => any1_any w' _)
   go_wp2_with (fail)
   go_quiet ((go_at_call 132; exact Calls.quiet_of_same ((HQ.out _).mono fun _ _ h => ⟨h.1,h.2.symm⟩)))
   have hrun:∀ w',Below w.heap.size w w' -> w'.heap[w.heap.size]? = some tokBox -> Calls Tryz.prog 133 #[.pointer (some ⟨b,0,none⟩)] w' (RetA w b at_ s R):=fun w' hB hT => by
    have:=sign_any w' b at_ s (H.out.below hB) hs (by omega) (HG.out.below hB)
    rw [show signR (s.extract at_ s.size) = R by rw [<- HR.out,readS,if_neg (by rw [HI.out.2.2.1 (by omega)]; decide),if_neg (by rw [HI.out.2.2.2 (by omega)]; decide)]] at this
    exact this.mono fun _ _ hr => hr.after H.out hB hT
   have HRUN:=hid hrun
   clear hrun
   go_wp2_with (first
    | (go_at_call 133; (refine (HRUN.out _ (below_drewN (HI.out.1.alloc HI.out.1.size _) _) (HK.blk_drewN (HK.blk_alloc HI.out.2.1 _) _)).mono ?_; rintro e w3 ⟨rfl,hA⟩; have e0:=hA.e0; have e1:=hA.e1; have e2:=hA.e2; have e3:=hA.e3; have e4:=hA.e4; have e5:=hA.e5)))
   refine bodyPost_ret (v:=.tuple #[.agg #[.int .u8 R.k,.string R.t,.int .i64 at_],.int .i64 R.e]) ?_ rfl ?_
   ·have g0:=hA.g0; have g1:=hA.g1; have g2:=hA.g2
    simp [results,Tryz.results109,go_sem,g0,g1,g2]
   ·exact ⟨rfl,by have:=hA.fin (.cells #[.int .u8 R.k,.string R.t,.int .i64 at_] 86) (at_ + R.t.size) (.int .u8 R.k) (.string R.t) (.int .i64 at_); rw [show ((at_ + R.t.size:Nat):Int) = (at_:Int) + (R.t.size:Int) by omega] at this; exact this⟩
end Go.Proofs.YtdobflpbkfkmgaaGreatDoor
namespace Go.Proofs.YtdobflpbkfkmgaaGreatDoor
open Go.RowKit
set_option linter.unusedVariables false
set_option linter.unusedSimpArgs false
set_option linter.unusedSectionVars false
structure Turn (b B:Nat) (T:World -> Prop) (A C:World):Prop where
 os:C.os = A.os
 tape:C.tape = A.tape
 output:C.output = A.output
 size:A.heap.size <= C.heap.size
 same:∀ k o,A.heap[k]? = some o -> k ≠ b -> (k < B ∨ o.isCells = true) -> C.heap[k]? = some o
 keep:T A -> T C
theorem Turn.of_chg {b B:Nat} {T:World -> Prop} {A C:World} (h:Chg b A C) (hT:T C):Turn b B T A C :=
 ⟨h.os,h.tape,h.output,h.size,fun k o hk hne _ => HK.Frm.heap h hk hne,fun _ => hT⟩
theorem Turn.of_alloc {b B:Nat} {T:World -> Prop} (hT:∀ A C:World,b < A.heap.size -> C.heap[b]? = A.heap[b]? -> T A -> T C) (A:World) (hb:b < A.heap.size) (o:Obj):Turn b B T A (A.alloc o) :=
 have h:=(HK.Frm.refl (fun k => k = b) A).alloc o
 ⟨h.os,h.tape,h.output,h.size,fun k o hk hne _ => HK.Frm.heap h hk hne,hT _ _ hb (Below.heap_alloc _ _ _ hb)⟩
theorem Turn.of_put {b B:Nat} {T:World -> Prop} (hT:∀ A C:World,b < A.heap.size -> C.heap[b]? = A.heap[b]? -> T A -> T C) {A:World} (hb:b < B) {l:Nat} {o:Obj} (ho:A.heap[l]? = some o) (hn:o.isCells = false) (hl:B <= l) (o':Obj):Turn b B T A (A.putObj l o'):=by
 have hf:=(HK.Frm.refl (fun k => k = l) A).putObj (l:=l) (.inl rfl) o'
 have hla:=(Array.getElem?_eq_some_iff.1 ho).1
 refine ⟨hf.os,hf.tape,hf.output,hf.size,fun k x hk hne hx => ?_,hT _ _ (by omega) (World.putObj_heap_other (by omega))⟩
 refine HK.Frm.heap hf hk (fun e => ?_)
 subst e
 rw [ho] at hk; cases hk
 rcases hx with hx | hx
 ·omega
 ·rw [hn] at hx; cases hx
def Keep (K:Nat -> Prop) (A C:World):Prop:=A.heap.size <= C.heap.size /\ ∀ k,K k -> C.heap[k]? = A.heap[k]?
theorem Keep.trans {K:Nat -> Prop} {A B C:World} (h:Keep K A B) (k:Keep K B C):Keep K A C:=⟨Nat.le_trans h.1 k.1,fun i hi => (k.2 i hi).trans (h.2 i hi)⟩
theorem Keep.put {K:Nat -> Prop} {A:World} {l:Nat} (h:∀ k,K k -> k ≠ l) (o:Obj):Keep K A (A.putObj l o):=by
 refine ⟨by simp [World.putObj],fun k hk => ?_⟩
 exact World.putObj_heap_other (fun e => h k hk e)
def SeqC {α:Type} (F:Fence) (n:Nat) (P:Program) (g:Nat) (lb:Array Value) (encs:α -> Array Value) (b:Nat) (T:World -> Prop) (K:Nat -> Prop) (S Sp:List α -> Prop) (N:Nat) (w:World):Prop :=
 ∀ (l:Nat) (J Jx:List α -> World -> Prop) (W:World),Below w.heap.size w W -> (∀ s A C,J s A -> Chg b A C -> T C -> J s C) -> (∀ s A C,Jx s A -> Chg b A C -> T C -> Jx s C) ->
  (∀ pre x W1,J pre W1 -> pre.length < N -> YieldAt F (n - 1) P l (encs x) W1 fun e W' =>
   (e = .returned (.bool true) /\ J (pre ++ [x]) W' /\ Keep K W1 W') ∨ (e = .returned (.bool false) /\ Jx (pre ++ [x]) W')) ->
  J [] W ->
  CallsIn F n P g (#[.func (.yield l) #[] #[]] ++ lb) W fun e W' => (∃ v,e = .returned v) /\ ((∃ xs,S xs /\ J xs W') ∨ (∃ pre,Sp pre /\ Jx pre W'))
section
variable {α:Type} {F:Fence} {n:Nat} {P:Program}
theorem range_cell {g:Operand} {ps:Array Tmp} {assign body:Code} {Q:Exit -> Act -> World -> Prop} {a:Act} {w:World}
  (hro:F.round = none) (h1:1 <= n) {gf:Nat} {lb:Array Value} (hg:a.eval g = .func (.func gf) #[] lb) (hFg:F.fn gf) (eg:∀ args w,(callFunc gf args).run P w = .ok (.enter gf args) w)
  {encs:α -> Array Value} {b:Nat} {T:World -> Prop} (hT:∀ A C:World,b < A.heap.size -> C.heap[b]? = A.heap[b]? -> T A -> T C) {K:Nat -> Prop} {S Sp:List α -> Prop} {N:Nat} (hseq:SeqC F (n - 1) P gf lb encs b T K S Sp N w)
  (hb:b < w.heap.size) (hK:∀ k,K k -> k < w.heap.size) (hps:∀ x,(encs x).size = ps.size)
  (I:List α -> World -> Prop) (Ix:Code -> List α -> World -> Prop) (hI:∀ s A C,I s A -> Turn b w.heap.size T A C -> I s C) (hIx:∀ c s A C,Ix c s A -> Turn b w.heap.size T A C -> Ix c s C) (h0:I [] w)
  (Ax:α -> Act -> World -> Prop) (hAx:∀ x a' A C,Ax x a' A -> Turn b w.heap.size T A C -> Ax x a' C)
  (hassign:∀ (l:Nat) (pre:List α) (x:α) (W:World) (R:Act -> World -> Prop),I pre W -> (∀ a' W',KeepsFrom w.heap.size W W' -> Keep K W W' -> I pre W' -> Ax x a' W' -> R a' W') ->
   assign.wpIn (F.inRound l) (n - 1 - 1) P (Exit.then R (fun _ _ _ => False)) { tmps:=(ps.zip (encs x)).foldl (fun t (p,v) => t.setIfInBounds p v) a.tmps,defers:=[] } W)
  (hbody:∀ (l:Nat) (pre:List α) (x:α) (a':Act) (W:World),I pre W -> Ax x a' W -> pre.length < N -> body.wpIn (F.inRound l) (n - 1 - 1) P (ownPostG w.heap.size (Keep K) I Ix (pre ++ [x]) W) a' W)
  (hdone:∀ (D:Nat) (xs:List α) (W:World),w.heap.size <= D -> S xs -> I xs W -> W.heap[D]? = some (.deferred (some [])) -> Q .normal { a with defers:={ target:=.collected D,args:=#[] } :: a.defers } W)
  (hstop:∀ (D:Nat) (c:Code) (pre:List α) (W:World),w.heap.size <= D -> Sp pre -> Ix c pre W -> W.heap[D]? = some (.deferred (some [])) -> c.wpIn F n P Q { a with defers:={ target:=.collected D,args:=#[] } :: a.defers } W) :
  (Code.rangeFunc g ps assign body).wpIn F n P Q a w:=by
 refine wpIn_rangeFunc fun fn hfn => ?_
 rw [hro]
 -- the record of the loop,in its states
 obtain ⟨B,hBd⟩:∃ B,B = w.heap.size:=⟨_,rfl⟩
 obtain ⟨rc,hrc⟩:∃ rc:LoopState -> Option Code -> Loop,rc = fun st pe => { state:=st,pending:=pe,fn:=fn,tmps:=a.tmps,params:=ps,assign:=assign,body:=body,defers:=B }:=⟨_,rfl⟩
 have hbB:b < B:=by omega
 have hne1:B + 1 ≠ b:=by omega
 have hne0:B ≠ b:=by omega
 have hKne:∀ k,K k -> k ≠ B + 1:=fun k hk e => by have:=hK k hk; omega
 have hKst:∀ (W:World) (o:Obj),Keep K W (W.putObj (B + 1) o):=fun W o => Keep.put (fun k hk => hKne k hk) o
 have hstay:∀ {A C:World} {o:Obj} {k:Nat},Chg b A C -> A.heap[k]? = some o -> k ≠ b -> C.heap[k]? = some o:=fun h hk hne => HK.Frm.heap h hk hne
 have hturn:∀ {A:World} {st:LoopState} {pe:Option Code} (o:Obj),A.heap[B + 1]? = some (.loop (rc st pe)) -> Turn b w.heap.size T A (A.putObj (B + 1) o):=fun o h => Turn.of_put hT (by omega) h rfl (by omega) o
 have hput:∀ {A:World} {o o':Obj},A.heap[B + 1]? = some o -> (A.putObj (B + 1) o').heap[B + 1]? = some o':=fun h => World.putObj_heap_same (Array.getElem?_eq_some_iff.1 h).1
 have hput0:∀ {A:World} {o o':Obj},A.heap[B]? = some o -> (A.putObj (B + 1) o').heap[B]? = some o:=fun h => (World.putObj_heap_other (by omega)).trans h
 refine ⟨B + 1,[{ target:=.collected B,args:=#[] }],(w.alloc (.deferred (some []))).alloc (.loop (rc .ready none)),{ target:=.fn (.func gf) lb,args:=#[.func (.yield (B + 1)) #[] #[]] },(w.alloc (.deferred (some []))).alloc (.loop (rc .ready none)),gf,
  #[.func (.yield (B + 1)) #[] #[]] ++ lb,(w.alloc (.deferred (some []))).alloc (.loop (rc .ready none)),?_,?_,?_,?_,fun _ => h1,?_⟩
 ·rw [hrc,hBd]; exact run_enterLoop_outer _ _ _ _ _
 ·simp only [resolve,hg]
  simp [go_sem]
 ·intro f' hf'; simp [Target.leads] at hf'; subst hf'; exact hFg
 ·simp [invoke,go_sem,eg]
 have hrec1:((w.alloc (.deferred (some []))).alloc (.loop (rc .ready none))).heap[B + 1]? = some (.loop (rc .ready none)):=by
  have:=World.alloc_heap_new (w.alloc (.deferred (some []))) (.loop (rc .ready none))
  rwa [World.size_alloc,<- hBd] at this
 have hdef1:((w.alloc (.deferred (some []))).alloc (.loop (rc .ready none))).heap[B]? = some (.deferred (some [])) :=
  (Below.heap_alloc _ _ _ (by simp [hBd])).trans (by rw [hBd]; exact World.alloc_heap_new w _)
 have hi1:I [] ((w.alloc (.deferred (some []))).alloc (.loop (rc .ready none))):=hI _ _ _ (hI _ _ _ h0 (Turn.of_alloc hT _ hb _)) (Turn.of_alloc hT _ (by simp; omega) _)
 refine (hseq (B + 1) (fun pre W => I pre W /\ W.heap[B + 1]? = some (.loop (rc .ready none)) /\ W.heap[B]? = some (.deferred (some [])))
  (fun pre W => ∃ c,Ix c pre W /\ W.heap[B + 1]? = some (.loop (rc .done (some c))) /\ W.heap[B]? = some (.deferred (some [])))
  _ (((Below.refl _ w).alloc (Nat.le_refl _) _).alloc (by simp) _)
  (fun s A C h hc ht => ⟨hI _ _ _ h.1 (.of_chg hc ht),hstay hc h.2.1 hne1,hstay hc h.2.2 hne0⟩)
  (fun s A C ⟨c,h2,h3,h4⟩ hc ht => ⟨c,hIx _ _ _ _ h2 (.of_chg hc ht),hstay hc h3 hne1,hstay hc h4 hne0⟩)
  ?_ ⟨hi1,hrec1,hdef1⟩).mono ?_
 ·rintro pre x W ⟨hi,hl,hd⟩ hlen
  have hy:=run_yield (P:=P) (args:=encs x) hl (by rw [hrc]; exact hps x)
  rw [hrc] at hy
  refine ⟨fn,_,assign,body,hy,roundIn_of_wpIn hfn (hassign _ pre x W _ hi fun a' W2 hk2 hp2 hi2 ha2 => ?_)⟩
  have hl2:=hk2.same _ _ (by omega) hl rfl
  have hd2:=hk2.same _ _ (by omega) hd rfl
  refine ⟨_,run_beginRound hl2 (by rw [hrc]),?_⟩
  have hl3:(W2.putObj (B + 1) (.loop { rc .ready none with state:=.busy })).heap[B + 1]? = some (.loop (rc .busy none)):=by
   rw [hput hl2,hrc]
  have hd3:(W2.putObj (B + 1) (.loop { rc .ready none with state:=.busy })).heap[B]? = some (.deferred (some [])):=hput0 hd2
  refine wpIn_mono (hbody _ pre x a' _ (hI _ _ _ hi2 (hturn _ hl2)) (hAx _ _ _ _ ha2 (hturn _ hl2)) hlen) ?_
  -- what the end of a round does,whatever the jump
  have fin:∀ (jump:Option Code) (W4:World),KeepsFrom w.heap.size (W2.putObj (B + 1) (.loop { rc .ready none with state:=.busy })) W4 ->
    W4.heap[B + 1]? = some (.loop (rc .busy none)) /\ ∃ o,(Instr.endRound (B + 1) jump).run P W4 = .ok (.bool jump.isNone) (W4.putObj (B + 1) o) /\ o = .loop (rc (if jump.isNone then .ready else .done) jump) /\
     (W4.putObj (B + 1) o).heap[B + 1]? = some o /\ (W4.putObj (B + 1) o).heap[B]? = some (.deferred (some [])):=fun jump W4 hk4 => by
   have hl4:=hk4.same _ _ (by omega) hl3 rfl
   have hd4:=hk4.same _ _ (by omega) hd3 rfl
   refine ⟨hl4,_,run_endRound (P:=P) jump hl4,by rw [hrc],hput hl4,hput0 hd4⟩
  have jumps:∀ (c:Code) (W4:World),KeepsFrom w.heap.size (W2.putObj (B + 1) (.loop { rc .ready none with state:=.busy })) W4 -> Ix c (pre ++ [x]) W4 ->
    ∃ v W5,(Instr.endRound (B + 1) (some c)).run P W4 = .ok (.bool v) W5 /\ v = false /\ ∃ c,Ix c (pre ++ [x]) W5 /\ W5.heap[B + 1]? = some (.loop (rc .done (some c))) /\ W5.heap[B]? = some (.deferred (some [])):=fun c W4 hk4 hi4 => by
   obtain ⟨hl4,o,hr,rfl,h5,h6⟩:=fin (some c) W4 hk4
   exact ⟨_,_,hr,rfl,c,hIx _ _ _ _ hi4 (hturn _ hl4),h5,h6⟩
  rintro e a3 W4 hp
  cases e with
  | normal =>
   obtain ⟨hk4,hp4,hi4⟩:=hp
   obtain ⟨hl4,o,hr,rfl,h5,h6⟩:=fin none W4 hk4
   exact ⟨_,_,hr,.inl ⟨rfl,⟨hI _ _ _ hi4 (hturn _ hl4),h5,h6⟩,((hp2.trans (hKst _ _)).trans hp4).trans (hKst _ _)⟩⟩
  | ret =>
   obtain ⟨v,W5,hr,rfl,h6⟩:=jumps _ W4 hp.1 hp.2
   exact ⟨_,_,hr,.inr ⟨rfl,h6⟩⟩
  | exit id =>
   obtain ⟨v,W5,hr,rfl,h6⟩:=jumps _ W4 hp.1 hp.2
   exact ⟨_,_,hr,.inr ⟨rfl,h6⟩⟩
  | goto t =>
   obtain ⟨v,W5,hr,rfl,h6⟩:=jumps _ W4 hp.1 hp.2
   exact ⟨_,_,hr,.inr ⟨rfl,h6⟩⟩
  | panic ch => exact hp.elim
  | outgrown => exact hp.elim
 ·rintro e W2 ⟨⟨v,rfl⟩,⟨xs,hS,hi,hl,hd⟩ | ⟨pre,hSp,c,hi,hl,hd⟩⟩
  ·refine ⟨none,_,by have:=run_endLoop (P:=P) hl (by rw [hrc]; simp); rw [hrc] at this; exact this,?_⟩
   exact hdone B xs _ (by omega) hS (hI _ _ _ hi (hturn _ hl)) (hput0 hd)
  ·refine ⟨some c,_,by have:=run_endLoop (P:=P) hl (by rw [hrc]; simp); rw [hrc] at this; exact this,?_⟩
   exact hstop B c pre _ (by omega) hSp (hIx _ _ _ _ hi (hturn _ hl)) (hput0 hd)
end
end Go.Proofs.YtdobflpbkfkmgaaGreatDoor
namespace Go.Proofs.YtdobflpbkfkmgaaGreatDoor
open Go.RowKit Go.Shelf Lib
set_option linter.unusedVariables false
set_option linter.unusedSimpArgs false
set_option linter.unusedSectionVars false
theorem wide_fn (f:Nat):Fence.wide.fn f = True:=rfl
theorem asked_wide {P:Program} {o:Oper} {a:Act} {C:World -> Prop}:Oper.askedIn Fence.wide P o a C:=fun _ _ _ _ => trivial
attribute [local go_sem] Oper.semAt_some wide_fn asked_wide
structure Toks (W:World) (b Bs at_:Nat) (s:ByteArray):Prop where
 hS:Scan W b at_ s
 hB:W.cell? ⟨Bs,0,none⟩ = some (.pointer (some ⟨b,0,none⟩))
 hG:Signs W
 hne:Bs ≠ b
 hn1:b ≠ 2
 hl:Bs < W.heap.size
def comes (ts:List Tok) (p:Nat) (e:Int):List (Tok × Int):=ts.map (fun t => (t,0)) ++ (if e = 0 then [] else [(⟨0,⟨#[]⟩,p⟩,e)])
def encT (x:Tok × Int):Array Value:=#[.agg #[.int .u8 x.1.k,.string x.1.t,.int .i64 x.1.p],.int .i64 x.2]
def KK (b Bs k:Nat):Prop:=k = b ∨ k = Bs ∨ k = 2
theorem cell_same {A C:World} {k:Nat} (h:C.heap[k]? = A.heap[k]?) (i:Nat):C.cell? ⟨k,i,none⟩ = A.cell? ⟨k,i,none⟩:=by
 simp [World.cell?,h]
theorem Toks.keep {W W':World} {b Bs at_:Nat} {s:ByteArray} (h:Toks W b Bs at_ s) (hk:Keep (KK b Bs) W W'):Toks W' b Bs at_ s where
 hS:=⟨(hk.2 b (.inl rfl)).trans h.hS.h⟩
 hB:=(cell_same (hk.2 Bs (.inr (.inl rfl))) 0).trans h.hB
 hG:=⟨fun i g hg => (cell_same (hk.2 2 (.inr (.inr rfl))) i).trans (h.hG.1 i g hg),Nat.lt_of_lt_of_le h.hG.2 hk.1⟩
 hne:=h.hne
 hn1:=h.hn1
 hl:=Nat.lt_of_lt_of_le h.hl hk.1
theorem Toks.chg {W W':World} {b Bs at_ a2:Nat} {s:ByteArray} (h:Toks W b Bs at_ s) (hc:Chg b W W') (hS:Scan W' b a2 s):Toks W' b Bs a2 s where
 hS:=hS
 hB:=(cell_same (hc.block Bs h.hl h.hne) 0).trans h.hB
 hG:=⟨fun i g hg => (cell_same (hc.block 2 h.hG.2 (fun e => h.hn1 e.symm)) i).trans (h.hG.1 i g hg),Nat.lt_of_lt_of_le h.hG.2 hc.size⟩
 hne:=h.hne
 hn1:=h.hn1
 hl:=Nat.lt_of_lt_of_le h.hl hc.size
set_option maxRecDepth 100000 in
set_option maxHeartbeats 1000000 in
theorem tokens_in (w:World) (b k:Nat) :
  CallsIn Fence.wide k Tryz.prog 78 #[.pointer (some ⟨b,0,none⟩)] w fun e w' => e = .returned (.func (.func 107) #[] #[.pointer (some ⟨w.heap.size,0,none⟩)]) /\
   w' = w.alloc (.cells #[.pointer (some ⟨b,0,none⟩)] 138):=by
 refine callsIn_of_wp Tryz.func78 rfl trivial ?_ rfl
 simp only [Tryz.ntmps78,List.size_toArray,List.length_cons,List.length_nil,Nat.reduceAdd,Nat.reduceSub,Array.replicate_succ,Array.replicate_zero,List.push_toArray,List.append_toArray,List.nil_append,List.cons_append]
 gi_wp2
 go_ret
 exact ⟨rfl,rfl⟩
def left (b:Nat) (s:ByteArray) (W:World):Nat:=s.size - (match W.cell? ⟨b,0,none⟩ with | some (.int _ n) => n.toNat | _ => 0)
theorem left_eq {b at_:Nat} {s:ByteArray} {W:World} (h:Scan W b at_ s):left b s W = s.size - at_:=by
 simp [left,h.c0]
def TokI (b Bs:Nat) (s:ByteArray) (all:List (Tok × Int)) (p:Nat) (e:Int) (J:List (Tok × Int) -> World -> Prop) (a0:Nat) (W:World):Prop :=
 ∃ pre us at_,a0 <= at_ /\ at_ <= s.size /\ LexL at_ ((bys s).drop at_) us p e /\ all = pre ++ comes us p e /\ Toks W b Bs at_ s /\ J pre W
theorem lex_at {s:ByteArray} {i:Nat} (h:i < s.size):∃ c,(bys s).drop i = c :: (bys s).drop (i + 1) /\ bt s i = c.toNat /\ readS s i = readL c ((bys s).drop (i + 1)):=by
 obtain ⟨c,l,h1,h2,h3⟩:=readS_L h
 have hd:(bys s).drop i = (bys s)[i]'h :: (bys s).drop (i + 1):=List.drop_eq_getElem_cons h
 rw [hd] at h1
 simp only [List.cons.injEq] at h1
 obtain ⟨rfl,rfl⟩:=h1
 exact ⟨_,hd,h3,h2⟩
theorem lex_blank {s:ByteArray} {i p:Nat} {us:List Tok} {e:Int} (h:i < s.size) (hb:blankB (bt s i) = true) (hL:LexL i ((bys s).drop i) us p e):LexL (i + 1) ((bys s).drop (i + 1)) us p e:=by
 obtain ⟨c,hd,hc,_⟩:=lex_at h
 rw [hd] at hL
 have hb':blL c = true:=by rw [<- hb,hc]; rfl
 cases hL with
 | blank _ h2 => exact h2
 | bad h2 _ => rw [hb'] at h2; cases h2
 | tok h2 _ _ _ => rw [hb'] at h2; cases h2
theorem lex_stop {s:ByteArray} {i p:Nat} {us:List Tok} {e:Int} (h:i = s.size) (hL:LexL i ((bys s).drop i) us p e):us = [⟨5,⟨#[]⟩,i⟩] /\ p = 0 /\ e = 0:=by
 rw [List.drop_eq_nil_of_le (show (bys s).length <= i by show s.size <= i; omega)] at hL
 cases hL
 exact ⟨rfl,rfl,rfl⟩
theorem lex_next {s:ByteArray} {i p:Nat} {us:List Tok} {e:Int} (h:i < s.size) (hb:blankB (bt s i) = false) (hL:LexL i ((bys s).drop i) us p e) :
  ((readS s i).e = 0 /\ ∃ us',comes us p e = (⟨(readS s i).k,(readS s i).t,i⟩,(readS s i).e) :: comes us' p e /\ i + (readS s i).t.size <= s.size /\ 1 <= (readS s i).t.size /\ LexL (i + (readS s i).t.size) ((bys s).drop (i + (readS s i).t.size)) us' p e) ∨
  ((readS s i).e ≠ 0 /\ comes us p e = [(⟨(readS s i).k,(readS s i).t,i⟩,(readS s i).e)]):=by
 obtain ⟨c,hd,hc,hr⟩:=lex_at h
 have hle:=readS_le h
 rw [hd] at hL
 have hb':blL c = false:=by rw [<- hb,hc]; rfl
 rw [hr] at hle ⊢
 cases hL with
 | blank h2 _ => rw [hb'] at h2; cases h2
 | bad _ he =>
  refine .inr ⟨he,?_⟩
  rw [(readL_none he).1,(readL_none he).2,comes,if_neg he]
  rfl
 | @tok _ _ _ r us' _ _ _ he hrr h2 =>
  refine .inl ⟨he,us',by rw [he]; rfl,by omega,?_,?_⟩
  ·obtain ⟨r',ht⟩:=read_ok he
   have hn:(bys (readL c ((bys s).drop (i + 1))).t).length ≠ 0:=fun e => ht.ne (List.length_eq_zero_iff.1 e)
   have:(bys (readL c ((bys s).drop (i + 1))).t).length = (readL c ((bys s).drop (i + 1))).t.size:=rfl
   omega
  ·have h3:(bys s).drop (i + (readL c ((bys s).drop (i + 1))).t.size) = r:=by
    rw [<- List.drop_drop,hd,hrr,show (readL c ((bys s).drop (i + 1))).t.size = (bys (readL c ((bys s).drop (i + 1))).t).length from rfl,List.drop_left]
   rw [h3]; exact h2
theorem TokI.blank {b Bs at_:Nat} {s:ByteArray} {all:List (Tok × Int)} {p:Nat} {e:Int} {J:List (Tok × Int) -> World -> Prop} (hJ:∀ x A C,J x A -> Chg b A C -> (∃ a,Scan C b a s) -> J x C) {a0 nq:Nat} {W:World} {pre:List (Tok × Int)} {us:List Tok}
  (haa:a0 <= at_) (hlt:at_ < s.size) (hb:blankB (bt s at_) = true) (h:LexL at_ ((bys s).drop at_) us p e /\ all = pre ++ comes us p e /\ Toks W b Bs at_ s /\ J pre W) :
  TokI b Bs s all p e J a0 ((W.drewN nq).setCell ⟨b,0,none⟩ (.int .i64 ((at_:Int) + 1))) /\ left b s ((W.drewN nq).setCell ⟨b,0,none⟩ (.int .i64 ((at_:Int) + 1))) = s.size - (at_ + 1):=by
 obtain ⟨h1,h2,h3,h4⟩:=h
 have hc:Chg b W ((W.drewN nq).setCell ⟨b,0,none⟩ (.int .i64 ((at_:Int) + 1))):=((HK.Frm.refl (fun k => k = b) W).drewN nq).setCell (p:=⟨b,0,none⟩) (.inl rfl) _
 have hS:Scan ((W.drewN nq).setCell ⟨b,0,none⟩ (.int .i64 ((at_:Int) + 1))) b (at_ + 1) s:=by
  have:=HK.blk_set (HK.blk_drewN h3.hS.h nq) 0 (.int .i64 ((at_:Int) + 1))
  exact ⟨this⟩
 exact ⟨⟨pre,us,at_ + 1,by omega,hlt,lex_blank hlt hb h1,h2,h3.chg hc hS,hJ _ _ _ h4 hc ⟨_,hS⟩⟩,left_eq hS⟩
def PostY (J Jx:List (Tok × Int) -> World -> Prop) (b Bs:Nat) (pre:List (Tok × Int)) (x:Tok × Int) (W:World) (e:Ending) (W':World):Prop :=
 (e = .returned (.bool true) /\ J (pre ++ [x]) W' /\ Keep (KK b Bs) W W') ∨ (e = .returned (.bool false) /\ Jx (pre ++ [x]) W')
theorem Chg.drewN_l {b d:Nat} {A C:World} (h:Chg b (A.drewN d) C):Chg b A C:=⟨h.os,h.tape,h.output,h.size,h.block⟩
theorem tok_yield {J Jx:List (Tok × Int) -> World -> Prop} {k l b Bs:Nat} {all:List (Tok × Int)} {s:ByteArray} (hJ:∀ x A C,J x A -> Chg b A C -> (∃ a,Scan C b a s) -> J x C)
  (hY:∀ pre x W,J pre W -> pre.length < all.length -> YieldAt Fence.wide (k - 1) Tryz.prog l (encT x) W (PostY J Jx b Bs pre x W))
  {pre:List (Tok × Int)} {us:List Tok} {p at_:Nat} {e:Int} {W:World} {R:KT} (ha:all = pre ++ comes us p e) (hT:Toks W b Bs at_ s) (hj:J pre W) (hne:comes us p e ≠ []) (w3:World) (hc:Chg b W w3) {a2:Nat} (hS3:Scan w3 b a2 s) :
  YieldAt Fence.wide (k - 1) Tryz.prog l #[.agg #[.int .u8 R.k,.string R.t,.int .i64 at_],.int .i64 R.e] (w3.alloc (.cells #[.int .u8 R.k,.string R.t,.int .i64 at_] 86)) (PostY J Jx b Bs pre (⟨R.k,R.t,at_⟩,R.e) (w3.alloc (.cells #[.int .u8 R.k,.string R.t,.int .i64 at_] 86))):=by
 refine hY pre (⟨R.k,R.t,at_⟩,R.e) _ (hJ _ _ _ hj (hc.alloc _) ⟨_,⟨HK.blk_alloc hS3.h _⟩⟩) ?_
 rw [ha,List.length_append]
 have:0 < (comes us p e).length:=List.length_pos_iff.2 hne
 omega
theorem tok_on {J:List (Tok × Int) -> World -> Prop} {b Bs:Nat} {all:List (Tok × Int)} 
  {pre:List (Tok × Int)} {us us':List Tok} {p at_:Nat} {e:Int} {W w3 W4:World} {s:ByteArray} {R:KT} (ha:all = pre ++ comes us p e) (hT:Toks W b Bs at_ s /\ J pre W)
  (h5:comes us p e = (⟨R.k,R.t,at_⟩,R.e) :: comes us' p e) (h6:at_ + R.t.size <= s.size) (h8:LexL (at_ + R.t.size) ((bys s).drop (at_ + R.t.size)) us' p e)
  (hS3:Scan w3 b (at_ + R.t.size) s) (hc3:Chg b W w3) (hJ4:J (pre ++ [(⟨R.k,R.t,at_⟩,R.e)]) W4) {o:Obj} (hk4:Keep (KK b Bs) (w3.alloc o) W4) :
  TokI b Bs s all p e J 0 W4 /\ left b s W4 = s.size - (at_ + R.t.size):=by
 have hT3:Toks (w3.alloc o) b Bs (at_ + R.t.size) s:=(hT.1.chg hc3 hS3).chg ((HK.Frm.refl (fun k => k = b) w3).alloc o) ⟨HK.blk_alloc hS3.h o⟩
 have hT4:=hT3.keep hk4
 exact ⟨⟨_,us',_,Nat.zero_le _,h6,h8,by rw [ha,h5]; simp,hT4,hJ4⟩,left_eq hT4.hS⟩
set_option maxRecDepth 100000 in
set_option maxHeartbeats 4000000 in
theorem toks_in (k:Nat) (hk:1 <= k) (l b Bs:Nat) (s:ByteArray) (hs:s.size <= maxLen) (ts:List Tok) (p:Nat) (e:Int) (hL:LexL 0 (bys s) ts p e) (J Jx:List (Tok × Int) -> World -> Prop)
  (hJ:∀ x A C,J x A -> Chg b A C -> (∃ a,Scan C b a s) -> J x C)
  (hY:∀ pre x W,J pre W -> pre.length < (comes ts p e).length -> YieldAt Fence.wide (k - 1) Tryz.prog l (encT x) W (PostY J Jx b Bs pre x W))
  (W:World) (hG:Toks W b Bs 0 s) (h0:J [] W) :
  CallsIn Fence.wide k Tryz.prog 107 #[.func (.yield l) #[] #[],.pointer (some ⟨Bs,0,none⟩)] W fun e1 W' => (∃ v,e1 = .returned v) /\
   ((∃ ys,ys = comes ts p e /\ J ys W') ∨ (∃ pre,pre <+: comes ts p e /\ Jx pre W')):=by
 have hs':=hs
 unfold maxLen at hs'
 have HG0:=hid hG
 have H0:=hid h0
 have HL:=hid hL
 clear hG h0 hL
 refine callsIn_of_wp Tryz.func107 rfl trivial ?_ rfl
 simp only [Tryz.ntmps107,List.size_toArray,List.length_cons,List.length_nil,Nat.reduceAdd,Nat.reduceSub,Array.replicate_succ,Array.replicate_zero,List.push_toArray,List.append_toArray,List.nil_append,List.cons_append]
 gi_wp2
 gi_loopw [] (fun wr => TokI b Bs s (comes ts p e) p e J 0 wr) (fun wr => left b s wr)
 case atStart => exact ⟨[],ts,0,Nat.le_refl _,Nat.zero_le _,HL.out,rfl,HG0.out,H0.out⟩
 case round =>
  obtain ⟨wo,rfl⟩:∃ wo:World,wo = wr:=⟨_,rfl⟩
  obtain ⟨pre0,us0,a0,_,ha0,hL0,he0,hT0,hJ0⟩:=hrel
  have HI0:Hid (TokI b Bs s (comes ts p e) p e J a0 wo):=hid ⟨pre0,us0,a0,Nat.le_refl _,ha0,hL0,he0,hT0,hJ0⟩
  have HM:Hid (left b s wo = s.size - a0):=hid (left_eq hT0.hS)
  clear hL0 he0 hT0 hJ0
  gi_wp2
  gi_loopw [] (fun wr => TokI b Bs s (comes ts p e) p e J a0 wr) (fun wr => left b s wr)
  case atStart => exact HI0.out
  case round =>
   obtain ⟨pre,us,at_,haa,ha,hL,he,hT,hJs⟩:=hrel
   have HM1:Hid (left b s wr = s.size - at_):=hid (left_eq hT.hS)
   have HI:Hid (LexL at_ ((bys s).drop at_) us p e /\ comes ts p e = pre ++ comes us p e /\ Toks wr b Bs at_ s /\ J pre wr):=hid ⟨hL,he,hT,hJs⟩
   have c0:=hT.hS.c0
   have c1:=hT.hS.c1
   have f0:wr.frozen? ⟨b,0,none⟩ = false:=HK.blk_frozen hT.hS.h 0
   have cB:=hT.hB
   have b0:(0:Int) <= (at_:Int):=by omega
   clear hL he hT hJs
   by_cases hlt:at_ < s.size
   ·have d1:decide (at_ < s.size) = true:=decide_eq_true hlt
    have b1:(at_:Int) < (s.size:Int):=by omega
    have hq:=fun w' => blank_any w' ((s[at_]'hlt).toNat) (by rw [bt_eq]; exact bt_le s at_)
    cases hal:blankB (bt s at_) with
    | true =>
     have HAL:=hid hal
     have HQ:Hid (∀ w',Calls Tryz.prog 108 #[.int .u8 ((s[at_]'hlt).toNat:Nat)] w' (RetC w' true)):=hid (fun w' => by have:=hq w'; rw [bt_eq hlt,hal] at this; rw [bt_eq hlt]; exact this)
     clear hq hal
     gi_wp2_with (fail)
     gi_quiet ((gi_at_call 108; exact CallsIn.quiet_of_same (callsIn_wide.2 ((HQ.out _).mono fun _ _ h => ⟨h.1,h.2.symm⟩))))
     gi_wp2_with (fail)
     obtain ⟨r1,r2⟩:=TokI.blank hJ haa hlt HAL.out HI.out (nq:=nq)
     exact ⟨r1,by rw [r2,HM1.out]; omega⟩
    | false =>
     have HAL:=hid hal
     have HQ:Hid (∀ w',Calls Tryz.prog 108 #[.int .u8 ((s[at_]'hlt).toNat:Nat)] w' (RetC w' false)):=hid (fun w' => by have:=hq w'; rw [bt_eq hlt,hal] at this; rw [bt_eq hlt]; exact this)
     have d2:((at_:Int) == (s.size:Int)) = false:=by simp; omega
     clear hq hal
     gi_wp2_with (fail)
     gi_quiet ((gi_at_call 108; exact CallsIn.quiet_of_same (callsIn_wide.2 ((HQ.out _).mono fun _ _ h => ⟨h.1,h.2.symm⟩))))
     gi_wp2_with (fail)
     gi_quiet (fail)
     obtain ⟨R,hR⟩:∃ R,readS s at_ = R:=⟨_,rfl⟩
     have hstep:=lex_next hlt HAL.out HI.out.1
     rw [hR] at hstep
     have HST:=hid hstep
     have hnx:∀ d,Calls Tryz.prog 109 #[.pointer (some ⟨b,0,none⟩)] (wr.drewN d) (RetN wr b at_ s (readS s at_)):=fun d => (next_any (wr.drewN d) b at_ s ⟨HK.blk_drewN HI.out.2.2.1.hS.h d⟩ hs hlt HI.out.2.2.1.hG).mono fun _ _ h => ⟨h.1,h.2.1,h.2.2.drewN_l⟩
     rw [hR] at hnx
     have HNX:=hid hnx
     have HYY:=hid (tok_yield hJ hY HI.out.2.1 HI.out.2.2.1 HI.out.2.2.2 (R:=R) (by rcases hstep with ⟨_,us',h5,_⟩ | ⟨_,h5⟩ <;> simp [h5]))
     clear hstep hnx hR
     gi_wp2_with (gi_at_call 109; refine (callsIn_wide.2 (HNX.out _)).mono ?_; rintro e1 w3 ⟨rfl,hS3,hc3⟩; obtain ⟨fn,tmps,assign,body,hy,hRR⟩:=HYY.out w3 hc3 hS3)
     refine hRR.mono ?_
     clear hy hRR
     rintro e2 W4 (⟨rfl,hJ4,hk4⟩ | ⟨rfl,hJx4⟩)
     ·rcases HST.out with ⟨h0,us',h5,h6,h7,h8⟩ | ⟨h0,h5⟩
      ·have n0:(R.e == 0) = true:=by rw [h0]; rfl
       have n1:(R.e != 0) = false:=by rw [h0]; rfl
       have HQ4:Hid (TokI b Bs s (comes ts p e) p e J 0 W4 /\ left b s W4 = s.size - (at_ + R.t.size)):=hid (tok_on HI.out.2.1 HI.out.2.2 h5 h6 h8 hS3 hc3 hJ4 hk4)
       have H7:=hid h7
       have H6:=hid h6
       clear h0 h5 h6 h7 h8 hJ4 hk4 hS3 hc3
       gi_wp2_with (fail)
       exact ⟨HQ4.out.1,by rw [HQ4.out.2,HM.out]; have:=H7.out; have:=H6.out; omega⟩
      ·have n0:(R.e == 0) = false:=by simpa using h0
       have n1:(R.e != 0) = true:=by simpa using h0
       have HE:Hid (comes ts p e = pre ++ [(⟨R.k,R.t,at_⟩,R.e)]):=hid (by rw [HI.out.2.1,h5])
       clear h0 h5 hk4 hS3 hc3
       gi_wp2_with (fail)
       refine bodyPost_ret (results_none rfl _ _ _) rfl ?_
       exact ⟨⟨_,rfl⟩,.inl ⟨_,HE.out.symm,hJ4⟩⟩
     ·have HE:Hid (pre ++ [(⟨R.k,R.t,at_⟩,R.e)] <+: comes ts p e):=hid (by
       rcases HST.out with ⟨_,us',h5,_⟩ | ⟨_,h5⟩
       ·rw [HI.out.2.1,h5]; exact ⟨comes us' p e,by simp⟩
       ·rw [HI.out.2.1,h5]; exact List.prefix_rfl)
      clear hS3 hc3
      gi_wp2_with (fail)
      refine bodyPost_ret (results_none rfl _ _ _) rfl ?_
      exact ⟨⟨_,rfl⟩,.inr ⟨_,HE.out,hJx4⟩⟩
   ·have hae:at_ = s.size:=by omega
    have d1:decide (at_ < s.size) = false:=decide_eq_false hlt
    have d2:((at_:Int) == (s.size:Int)) = true:=by simp; omega
    obtain ⟨h1,h2,h3⟩:=lex_stop hae HI.out.1
    have hc5:comes us p e = [(⟨5,⟨#[]⟩,at_⟩,0)]:=by rw [h1,h3]; rfl
    have HE:Hid (comes ts p e = pre ++ [(⟨5,⟨#[]⟩,at_⟩,0)]):=hid (by rw [HI.out.2.1,hc5])
    have HYY:Hid (∀ d,YieldAt Fence.wide (k - 1) Tryz.prog l #[.agg #[.int .u8 5,.string ⟨#[]⟩,.int .i64 at_],.int .i64 0] (wr.drewN d) (PostY J Jx b Bs pre (⟨5,⟨#[]⟩,at_⟩,0) (wr.drewN d))):=hid (fun d =>
     hY pre (⟨5,⟨#[]⟩,at_⟩,0) _ (hJ _ _ _ HI.out.2.2.2 ((HK.Frm.refl (fun k => k = b) wr).drewN d) ⟨_,⟨HK.blk_drewN HI.out.2.2.1.hS.h d⟩⟩) (by rw [HE.out]; simp))
    clear hae h1 h2 h3 hc5
    gi_wp2_with (fail)
    gi_quiet (fail)
    obtain ⟨q1,rfl⟩:∃ q1,q1 = nq:=⟨nq,rfl⟩
    gi_wp2_with (fail)
    gi_quiet (fail)
    obtain ⟨fn,tmps,assign,body,hy,hRR⟩:=HYY.out (q1 + nq)
    gi_wp2_with (fail)
    refine hRR.mono ?_
    clear hy hRR
    rintro e2 W4 (⟨rfl,hJ4,hk4⟩ | ⟨rfl,hJx4⟩)
    ·gi_wp2_with (fail)
     refine bodyPost_ret (results_none rfl _ _ _) rfl ?_
     exact ⟨⟨_,rfl⟩,.inl ⟨_,HE.out.symm,hJ4⟩⟩
    ·gi_wp2_with (fail)
     refine bodyPost_ret (results_none rfl _ _ _) rfl ?_
     exact ⟨⟨_,rfl⟩,.inr ⟨_,by rw [HE.out]; exact List.prefix_rfl,hJx4⟩⟩
end Go.Proofs.YtdobflpbkfkmgaaGreatDoor
