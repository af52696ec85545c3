import Derived.Test.YtflmllablfjfeaaDoorProg
import Derived.Test.YtflmllablfjfeaaDoorKit
import Derived.WalkKit
import Derived.WalkSpells
import Derived.Lib.Hide
import Derived.MapKept
import Derived.Deep.QuietTactic
import Derived.BigQuiet
import Derived.Below
namespace Go.Proofs.YtflmllablfjfeaaDoor
open Go.RowKit
set_option linter.unusedVariables false
set_option linter.unusedSimpArgs false
set_option linter.unusedSectionVars false
def smallB (c:Nat):Bool:=decide (97 <= c) && decide (c <= 122)
def capB (c:Nat):Bool:=decide (65 <= c) && decide (c <= 90)
def digitB (c:Nat):Bool:=decide (48 <= c) && decide (c <= 57)
def letterB (c:Nat):Bool:=smallB c || capB c
def alnumB (c:Nat):Bool:=letterB c || digitB c
def blankB (c:Nat):Bool:=decide (c = 32) || decide (c = 9) || decide (c = 10) || decide (c = 13)
def markB (c:Nat):Bool:=decide (c = 63)
def varB (c:Nat):Bool:=decide (117 <= c) && decide (c <= 122)
def funB (c:Nat):Bool:=decide (97 <= c) && decide (c <= 116)
section
variable (w:World) (c:Nat)
def RetC (w:World) (b:Bool) (e:Ending) (w':World):Prop:=e = .returned (.bool b) /\ w = w'
set_option maxRecDepth 100000 in
theorem small_any (hc:c <= 255):Calls Tryd.prog 79 #[.int .u8 c] w (RetC w (smallB c)):=by
 obtain ⟨R,hR⟩:∃ R,smallB c = R:=⟨_,rfl⟩
 rw [hR]
 have HR:=Lib.hid hR
 clear hR
 go_enter Tryd.func79,Tryd.ntmps79
 go_wp2
 all_goals (
  go_ret
  rw [<- HR.out]
  refine ⟨congrArg (fun b => Ending.returned (Value.bool b)) (Bool.eq_iff_iff.2 ?_),rfl⟩
  simp [letterB,alnumB,smallB,capB,digitB,blankB,varB,funB,markB, *]
  try omega)
set_option maxRecDepth 100000 in
theorem cap_any (hc:c <= 255):Calls Tryd.prog 69 #[.int .u8 c] w (RetC w (capB c)):=by
 obtain ⟨R,hR⟩:∃ R,capB c = R:=⟨_,rfl⟩
 rw [hR]
 have HR:=Lib.hid hR
 clear hR
 go_enter Tryd.func69,Tryd.ntmps69
 go_wp2
 all_goals (
  go_ret
  rw [<- HR.out]
  refine ⟨congrArg (fun b => Ending.returned (Value.bool b)) (Bool.eq_iff_iff.2 ?_),rfl⟩
  simp [letterB,alnumB,smallB,capB,digitB,blankB,varB,funB,markB, *]
  try omega)
set_option maxRecDepth 100000 in
theorem digit_any (hc:c <= 255):Calls Tryd.prog 80 #[.int .u8 c] w (RetC w (digitB c)):=by
 obtain ⟨R,hR⟩:∃ R,digitB c = R:=⟨_,rfl⟩
 rw [hR]
 have HR:=Lib.hid hR
 clear hR
 go_enter Tryd.func80,Tryd.ntmps80
 go_wp2
 all_goals (
  go_ret
  rw [<- HR.out]
  refine ⟨congrArg (fun b => Ending.returned (Value.bool b)) (Bool.eq_iff_iff.2 ?_),rfl⟩
  simp [letterB,alnumB,smallB,capB,digitB,blankB,varB,funB,markB, *]
  try omega)
set_option maxRecDepth 100000 in
theorem var1_any (hc:c <= 255):Calls Tryd.prog 92 #[.int .u8 c] w (RetC w (varB c)):=by
 obtain ⟨R,hR⟩:∃ R,varB c = R:=⟨_,rfl⟩
 rw [hR]
 have HR:=Lib.hid hR
 clear hR
 go_enter Tryd.func92,Tryd.ntmps92
 go_wp2
 all_goals (
  go_ret
  rw [<- HR.out]
  refine ⟨congrArg (fun b => Ending.returned (Value.bool b)) (Bool.eq_iff_iff.2 ?_),rfl⟩
  simp [letterB,alnumB,smallB,capB,digitB,blankB,varB,funB,markB, *]
  try omega)
set_option maxRecDepth 100000 in
theorem fun1_any (hc:c <= 255):Calls Tryd.prog 96 #[.int .u8 c] w (RetC w (funB c)):=by
 obtain ⟨R,hR⟩:∃ R,funB c = R:=⟨_,rfl⟩
 rw [hR]
 have HR:=Lib.hid hR
 clear hR
 go_enter Tryd.func96,Tryd.ntmps96
 go_wp2
 all_goals (
  go_ret
  rw [<- HR.out]
  refine ⟨congrArg (fun b => Ending.returned (Value.bool b)) (Bool.eq_iff_iff.2 ?_),rfl⟩
  simp [letterB,alnumB,smallB,capB,digitB,blankB,varB,funB,markB, *]
  try omega)
set_option maxRecDepth 100000 in
theorem salnum_any (hc:c <= 255):Calls Tryd.prog 70 #[.int .u8 c] w (RetC w (alnumB c)):=by
 obtain ⟨R,hR⟩:∃ R,alnumB c = R:=⟨_,rfl⟩
 rw [hR]
 have HR:=Lib.hid hR
 clear hR
 go_enter Tryd.func70,Tryd.ntmps70
 go_wp2_with (first | (go_at_call 79; ((with_reducible refine (small_any w c hc).mono ?_); rintro e w' ⟨rfl,rfl⟩))| (go_at_call 69; ((with_reducible refine (cap_any w c hc).mono ?_); rintro e w' ⟨rfl,rfl⟩))| (go_at_call 80; ((with_reducible refine (digit_any w c hc).mono ?_); rintro e w' ⟨rfl,rfl⟩)))
 all_goals (
  go_ret
  rw [<- HR.out]
  refine ⟨congrArg (fun b => Ending.returned (Value.bool b)) (Bool.eq_iff_iff.2 ?_),rfl⟩
  have hR':=HR.out
  clear HR
  simp only [letterB,alnumB,smallB,capB,digitB,Bool.or_eq_true,Bool.and_eq_true,decide_eq_true_eq,Bool.or_eq_false_iff,Bool.and_eq_false_iff,decide_eq_false_iff_not,Bool.false_eq_true,Bool.true_eq_false,iff_true,iff_false,true_iff,false_iff] at *
  try omega)
end
theorem bytes_ne {a b:ByteArray} (h:a ≠ b):(a.toList == b.toList) = false:=by
 rw [<- beq_toListBytes]
 cases e:(a == b) with
 | false => rfl
 | true => exact absurd ((MapKept.bytes_beq a b).1 e) h
def bys (s:ByteArray):List UInt8:=s.data.toList
theorem bys_eq {s:ByteArray} {l:List UInt8}:bys s = l ↔ s = ⟨l.toArray⟩:=by
 constructor
 ·rintro rfl; cases s; simp [bys]
 ·rintro rfl; simp [bys]
def wordsD:List (List UInt8):=[[97,108,108],[115,111,109,101],[102,97,108,115,101],[110,101,120,116],[97,108,119,97,121,115],[117,110,116,105,108]]
def wordB (s:ByteArray):Bool:=decide (bys s ∈ wordsD)
set_option maxRecDepth 100000 in
set_option maxHeartbeats 1000000 in
theorem reserved_any (w:World) (s:ByteArray):Calls Tryd.prog 78 #[.string s] w (RetC w (wordB s)):=by
 by_cases h0:s = ⟨#[97,108,108]⟩
 ·subst h0
  rw [show wordB ⟨#[97,108,108]⟩ = true by decide +kernel]
  go_enter Tryd.func78,Tryd.ntmps78
  go_wp2
  go_ret
  exact ⟨rfl,rfl⟩
 by_cases h1:s = ⟨#[115,111,109,101]⟩
 ·subst h1
  rw [show wordB ⟨#[115,111,109,101]⟩ = true by decide +kernel]
  go_enter Tryd.func78,Tryd.ntmps78
  go_wp2
  go_ret
  exact ⟨rfl,rfl⟩
 by_cases h2:s = ⟨#[102,97,108,115,101]⟩
 ·subst h2
  rw [show wordB ⟨#[102,97,108,115,101]⟩ = true by decide +kernel]
  go_enter Tryd.func78,Tryd.ntmps78
  go_wp2
  go_ret
  exact ⟨rfl,rfl⟩
 by_cases h3:s = ⟨#[110,101,120,116]⟩
 ·subst h3
  rw [show wordB ⟨#[110,101,120,116]⟩ = true by decide +kernel]
  go_enter Tryd.func78,Tryd.ntmps78
  go_wp2
  go_ret
  exact ⟨rfl,rfl⟩
 by_cases h4:s = ⟨#[97,108,119,97,121,115]⟩
 ·subst h4
  rw [show wordB ⟨#[97,108,119,97,121,115]⟩ = true by decide +kernel]
  go_enter Tryd.func78,Tryd.ntmps78
  go_wp2
  go_ret
  exact ⟨rfl,rfl⟩
 by_cases h5:s = ⟨#[117,110,116,105,108]⟩
 ·subst h5
  rw [show wordB ⟨#[117,110,116,105,108]⟩ = true by decide +kernel]
  go_enter Tryd.func78,Tryd.ntmps78
  go_wp2
  go_ret
  exact ⟨rfl,rfl⟩
 have hr:wordB s = false:=by simp only [wordB,wordsD,List.mem_cons,bys_eq,h0,h1,h2,h3,h4,h5,List.not_mem_nil,or_self,decide_false]
 rw [hr]
 have n0:=bytes_ne h0
 rw [show (⟨#[97,108,108]⟩:ByteArray).toList = [97,108,108] by decide +kernel] at n0
 have n1:=bytes_ne h1
 rw [show (⟨#[115,111,109,101]⟩:ByteArray).toList = [115,111,109,101] by decide +kernel] at n1
 have n2:=bytes_ne h2
 rw [show (⟨#[102,97,108,115,101]⟩:ByteArray).toList = [102,97,108,115,101] by decide +kernel] at n2
 have n3:=bytes_ne h3
 rw [show (⟨#[110,101,120,116]⟩:ByteArray).toList = [110,101,120,116] by decide +kernel] at n3
 have n4:=bytes_ne h4
 rw [show (⟨#[97,108,119,97,121,115]⟩:ByteArray).toList = [97,108,119,97,121,115] by decide +kernel] at n4
 have n5:=bytes_ne h5
 rw [show (⟨#[117,110,116,105,108]⟩:ByteArray).toList = [117,110,116,105,108] by decide +kernel] at n5
 clear h0 h1 h2 h3 h4 h5 hr
 go_enter Tryd.func78,Tryd.ntmps78
 go_wp2
 go_ret
 exact ⟨rfl,rfl⟩
end Go.Proofs.YtflmllablfjfeaaDoor
namespace Go.Proofs.YtflmllablfjfeaaDoor
open Go.RowKit Lib
set_option linter.unusedVariables false
set_option linter.unusedSimpArgs false
set_option linter.unusedSectionVars false
def bt (s:ByteArray) (i:Nat):Nat:=((bys s)[i]?.getD 0).toNat
theorem bt_eq {s:ByteArray} {i:Nat} (h:i < s.size):(s[i]'h).toNat = bt s i:=by
 have h':i < (bys s).length:=h
 simp only [bt,List.getElem?_eq_getElem h',Option.getD_some]
 rfl
theorem bt_le (s:ByteArray) (i:Nat):bt s i <= 255:=by
 have:=((bys s)[i]?.getD 0).toNat_lt
 simp only [bt]; omega
def allB (q:Nat -> Bool) (s:ByteArray):Bool:=((bys s).drop 1).all (fun b => q b.toNat)
def checkB (p q:Nat -> Bool) (s:ByteArray):Bool:=decide (1 <= s.size) && decide (s.size <= 16) && !wordB s && p (bt s 0) && allB q s
theorem all_iff {q:Nat -> Bool} {s:ByteArray}:allB q s = true ↔ ∀ j,1 <= j -> j < s.size -> q (bt s j) = true:=by
 unfold allB
 rw [List.all_eq_true]
 constructor
 ·intro h j h1 hj
  have hj':j < (bys s).length:=hj
  have:=h (bys s)[j] (List.mem_of_getElem? (i:=j - 1) (by rw [List.getElem?_drop,show 1 + (j - 1) = j by omega,List.getElem?_eq_getElem hj']))
  simpa only [bt,List.getElem?_eq_getElem hj',Option.getD_some] using this
 ·intro h x hx
  obtain ⟨i,hi⟩:=List.mem_iff_getElem?.1 hx
  rw [List.getElem?_drop] at hi
  have hl:=(List.getElem?_eq_some_iff.1 hi).1
  have:=h (1 + i) (by omega) hl
  simpa only [bt,hi,Option.getD_some] using this
def RetD (w:World) (b:Bool) (e:Ending) (w':World):Prop:=e = .returned (.bool b) /\ ∃ d,w' = w.drewN d
set_option maxRecDepth 100000 in
set_option maxHeartbeats 4000000 in
theorem check_var (w:World) (s:ByteArray) (hs:s.size <= maxLen) (a1 a2:Addr) (h1:w.cell? a1 = some (.func (.func 92) #[] #[])) (h2:w.cell? a2 = some (.func (.func 80) #[] #[])) :
  Calls Tryd.prog 77 #[.string s,.pointer (some a1),.pointer (some a2)] w (RetD w (checkB varB digitB s)):=by
 unfold maxLen at hs
 by_cases l1:1 <= s.size
 ·by_cases l2:s.size <= 16
  ·have d1:decide ((s.size:Int) < 1) = false:=decide_eq_false (by omega)
   have d2:decide ((16:Int) < (s.size:Int)) = false:=decide_eq_false (by omega)
   have hwd:=fun w' => reserved_any w' s
   have hz:(0:Int) < (s.size:Int):=by omega
   have hz2:0 < s.size:=by omega
   have hpp:=fun w' => var1_any w' ((s[0]'hz2).toNat) (by rw [bt_eq]; exact bt_le s 0)
   cases hw:wordB s with
   | true =>
    have hr:checkB varB digitB s = false:=by simp [checkB,hw]
    rw [hr]
    rw [hw] at hwd
    have HWD:=hid hwd
    have HP:=hid hpp
    clear hwd hw hr hpp
    go_enter Tryd.func77,Tryd.ntmps77
    go_wp2_with (fail)
    go_quiet (first
     | (go_at_call 78; exact Calls.quiet_of_same ((HWD.out _).mono fun _ _ h => ⟨h.1,h.2.symm⟩))
     | (go_at_call 92; exact Calls.quiet_of_same ((HP.out _).mono fun _ _ h => ⟨h.1,h.2.symm⟩)))
    go_wp2_with (fail)
    go_ret
    exact ⟨rfl,_,rfl⟩
   | false =>
    cases hp:varB (bt s 0) with
    | false =>
     have hr:checkB varB digitB s = false:=by simp [checkB,hp]
     rw [hr]
     rw [hw] at hwd
     rw [bt_eq hz2,hp] at hpp
     have HWD:=hid hwd
     have HP:=hid (fun w' => by have:=hpp w'; rw [<- bt_eq hz2] at this; exact this:∀ w',Calls Tryd.prog 92 #[.int .u8 ((s[0]'hz2).toNat:Nat)] w' (RetC w' false))
     clear hwd hw hr hpp hp
     go_enter Tryd.func77,Tryd.ntmps77
     go_wp2_with (fail)
     go_quiet (first
      | (go_at_call 78; exact Calls.quiet_of_same ((HWD.out _).mono fun _ _ h => ⟨h.1,h.2.symm⟩))
      | (go_at_call 92; exact Calls.quiet_of_same ((HP.out _).mono fun _ _ h => ⟨h.1,h.2.symm⟩)))
     go_wp2_with (fail)
     go_ret
     exact ⟨rfl,_,rfl⟩
    | true =>
     have hr:checkB varB digitB s = allB digitB s:=by simp [checkB,hp,hw,l1,l2]
     rw [hr]
     rw [hw] at hwd
     rw [bt_eq hz2,hp] at hpp
     have HWD:=hid hwd
     have HP:=hid (fun w' => by have:=hpp w'; rw [<- bt_eq hz2] at this; exact this:∀ w',Calls Tryd.prog 92 #[.int .u8 ((s[0]'hz2).toNat:Nat)] w' (RetC w' true))
     clear hwd hw hr hpp hp
     go_enter Tryd.func77,Tryd.ntmps77
     go_wp2_with (fail)
     go_quiet (first
      | (go_at_call 78; exact Calls.quiet_of_same ((HWD.out _).mono fun _ _ h => ⟨h.1,h.2.symm⟩))
      | (go_at_call 92; exact Calls.quiet_of_same ((HP.out _).mono fun _ _ h => ⟨h.1,h.2.symm⟩)))
     go_wp2_with (fail)
     go_loopw [5] (fun i wr => ∃ k d:Nat,1 <= k /\ k <= s.size /\ i = .int .i64 k /\ wr = w.drewN d /\ ∀ j,1 <= j -> j < k -> digitB (bt s j) = true) (fun i _ => s.size - (intOf i).toNat)
     case atStart => exact ⟨1,_,by omega,by omega,rfl,rfl,fun j h1 h2 => by omega⟩
     case round =>
      obtain ⟨k,d,hk1,hk,rfl,hwr,hall⟩:=hrel
      have g2:wr.cell? a2 = some (.func (.func 80) #[] #[]):=by rw [hwr]; exact h2
      have HWR:=hid hwr
      have HALL:=hid hall
      clear hwr hall h1 h2
      by_cases hks:k < s.size
      ·have b0:(0:Int) <= (k:Int):=by omega
       have b1:(k:Int) < (s.size:Int):=by omega
       have hqq:=fun w' => digit_any w' ((s[k]'hks).toNat) (by rw [bt_eq]; exact bt_le s k)
       cases hq:digitB (bt s k) with
       | true =>
        have HQ:=hid hq
        rw [bt_eq hks,hq] at hqq
        have HQQ:=hid (fun w' => by have:=hqq w'; rw [<- bt_eq hks] at this; exact this:∀ w',Calls Tryd.prog 80 #[.int .u8 ((s[k]'hks).toNat:Nat)] w' (RetC w' true))
        clear hqq hq
        go_wp2_with (fail)
        go_quiet ((go_at_call 80; exact Calls.quiet_of_same ((HQQ.out _).mono fun _ _ h => ⟨h.1,h.2.symm⟩)))
        go_wp2_with (fail)
        go_roundw
        case rel => exact ⟨k + 1,d + nq,by omega,by omega,by go_num,by rw [HWR.out,World.drewN_drewN],fun j h1 h2 => by
         by_cases e:j = k
         ·rw [e]; exact HQ.out
         ·exact HALL.out j h1 (by omega)⟩
        case measure => simp [intOf]; omega
       | false =>
        have hf:allB digitB s = false:=by
         cases h:allB digitB s with
         | false => rfl
         | true => have:=all_iff.1 h k hk1 hks; rw [hq] at this; cases this
        rw [bt_eq hks,hq] at hqq
        have HQQ:=hid (fun w' => by have:=hqq w'; rw [<- bt_eq hks] at this; exact this:∀ w',Calls Tryd.prog 80 #[.int .u8 ((s[k]'hks).toNat:Nat)] w' (RetC w' false))
        have HF:=hid hf
        clear hqq hq hf
        go_wp2_with (fail)
        go_quiet ((go_at_call 80; exact Calls.quiet_of_same ((HQQ.out _).mono fun _ _ h => ⟨h.1,h.2.symm⟩)))
        go_wp2_with (fail)
        go_ret
        exact ⟨by rw [HF.out]; rfl,d + nq,by rw [HWR.out,World.drewN_drewN]⟩
      ·have b1:¬ ((k:Int) < (s.size:Int)):=by omega
       have hf:allB digitB s = true:=all_iff.2 fun j h1 hj => HALL.out j h1 (by omega)
       have HF:=hid hf
       clear hf
       go_wp2_with (fail)
       go_ret
       exact ⟨by rw [HF.out]; rfl,d,HWR.out⟩
  ·have d1:decide ((s.size:Int) < 1) = false:=decide_eq_false (by omega)
   have d2:decide ((16:Int) < (s.size:Int)) = true:=decide_eq_true (by omega)
   have hr:checkB varB digitB s = false:=by simp [checkB,l2]
   rw [hr]
   clear hr
   go_enter Tryd.func77,Tryd.ntmps77
   go_wp2_with (fail)
   go_quiet (fail)
   go_wp2_with (fail)
   go_ret
   exact ⟨rfl,_,rfl⟩
 ·have d1:decide ((s.size:Int) < 1) = true:=decide_eq_true (by omega)
  have hr:checkB varB digitB s = false:=by simp [checkB,l1]
  rw [hr]
  clear hr
  go_enter Tryd.func77,Tryd.ntmps77
  go_wp2_with (fail)
  go_quiet (fail)
  go_wp2_with (fail)
  go_ret
  exact ⟨rfl,_,rfl⟩
set_option maxRecDepth 100000 in
set_option maxHeartbeats 4000000 in
theorem check_fun (w:World) (s:ByteArray) (hs:s.size <= maxLen) (a1 a2:Addr) (h1:w.cell? a1 = some (.func (.func 96) #[] #[])) (h2:w.cell? a2 = some (.func (.func 70) #[] #[])) :
  Calls Tryd.prog 77 #[.string s,.pointer (some a1),.pointer (some a2)] w (RetD w (checkB funB alnumB s)):=by
 unfold maxLen at hs
 by_cases l1:1 <= s.size
 ·by_cases l2:s.size <= 16
  ·have d1:decide ((s.size:Int) < 1) = false:=decide_eq_false (by omega)
   have d2:decide ((16:Int) < (s.size:Int)) = false:=decide_eq_false (by omega)
   have hwd:=fun w' => reserved_any w' s
   have hz:(0:Int) < (s.size:Int):=by omega
   have hz2:0 < s.size:=by omega
   have hpp:=fun w' => fun1_any w' ((s[0]'hz2).toNat) (by rw [bt_eq]; exact bt_le s 0)
   cases hw:wordB s with
   | true =>
    have hr:checkB funB alnumB s = false:=by simp [checkB,hw]
    rw [hr]
    rw [hw] at hwd
    have HWD:=hid hwd
    have HP:=hid hpp
    clear hwd hw hr hpp
    go_enter Tryd.func77,Tryd.ntmps77
    go_wp2_with (fail)
    go_quiet (first
     | (go_at_call 78; exact Calls.quiet_of_same ((HWD.out _).mono fun _ _ h => ⟨h.1,h.2.symm⟩))
     | (go_at_call 96; exact Calls.quiet_of_same ((HP.out _).mono fun _ _ h => ⟨h.1,h.2.symm⟩)))
    go_wp2_with (fail)
    go_ret
    exact ⟨rfl,_,rfl⟩
   | false =>
    cases hp:funB (bt s 0) with
    | false =>
     have hr:checkB funB alnumB s = false:=by simp [checkB,hp]
     rw [hr]
     rw [hw] at hwd
     rw [bt_eq hz2,hp] at hpp
     have HWD:=hid hwd
     have HP:=hid (fun w' => by have:=hpp w'; rw [<- bt_eq hz2] at this; exact this:∀ w',Calls Tryd.prog 96 #[.int .u8 ((s[0]'hz2).toNat:Nat)] w' (RetC w' false))
     clear hwd hw hr hpp hp
     go_enter Tryd.func77,Tryd.ntmps77
     go_wp2_with (fail)
     go_quiet (first
      | (go_at_call 78; exact Calls.quiet_of_same ((HWD.out _).mono fun _ _ h => ⟨h.1,h.2.symm⟩))
      | (go_at_call 96; exact Calls.quiet_of_same ((HP.out _).mono fun _ _ h => ⟨h.1,h.2.symm⟩)))
     go_wp2_with (fail)
     go_ret
     exact ⟨rfl,_,rfl⟩
    | true =>
     have hr:checkB funB alnumB s = allB alnumB s:=by simp [checkB,hp,hw,l1,l2]
     rw [hr]
     rw [hw] at hwd
     rw [bt_eq hz2,hp] at hpp
     have HWD:=hid hwd
     have HP:=hid (fun w' => by have:=hpp w'; rw [<- bt_eq hz2] at this; exact this:∀ w',Calls Tryd.prog 96 #[.int .u8 ((s[0]'hz2).toNat:Nat)] w' (RetC w' true))
     clear hwd hw hr hpp hp
     go_enter Tryd.func77,Tryd.ntmps77
     go_wp2_with (fail)
     go_quiet (first
      | (go_at_call 78; exact Calls.quiet_of_same ((HWD.out _).mono fun _ _ h => ⟨h.1,h.2.symm⟩))
      | (go_at_call 96; exact Calls.quiet_of_same ((HP.out _).mono fun _ _ h => ⟨h.1,h.2.symm⟩)))
     go_wp2_with (fail)
     go_loopw [5] (fun i wr => ∃ k d:Nat,1 <= k /\ k <= s.size /\ i = .int .i64 k /\ wr = w.drewN d /\ ∀ j,1 <= j -> j < k -> alnumB (bt s j) = true) (fun i _ => s.size - (intOf i).toNat)
     case atStart => exact ⟨1,_,by omega,by omega,rfl,rfl,fun j h1 h2 => by omega⟩
     case round =>
      obtain ⟨k,d,hk1,hk,rfl,hwr,hall⟩:=hrel
      have g2:wr.cell? a2 = some (.func (.func 70) #[] #[]):=by rw [hwr]; exact h2
      have HWR:=hid hwr
      have HALL:=hid hall
      clear hwr hall h1 h2
      by_cases hks:k < s.size
      ·have b0:(0:Int) <= (k:Int):=by omega
       have b1:(k:Int) < (s.size:Int):=by omega
       have hqq:=fun w' => salnum_any w' ((s[k]'hks).toNat) (by rw [bt_eq]; exact bt_le s k)
       cases hq:alnumB (bt s k) with
       | true =>
        have HQ:=hid hq
        rw [bt_eq hks,hq] at hqq
        have HQQ:=hid (fun w' => by have:=hqq w'; rw [<- bt_eq hks] at this; exact this:∀ w',Calls Tryd.prog 70 #[.int .u8 ((s[k]'hks).toNat:Nat)] w' (RetC w' true))
        clear hqq hq
        go_wp2_with (fail)
        go_quiet ((go_at_call 70; exact Calls.quiet_of_same ((HQQ.out _).mono fun _ _ h => ⟨h.1,h.2.symm⟩)))
        go_wp2_with (fail)
        go_roundw
        case rel => exact ⟨k + 1,d + nq,by omega,by omega,by go_num,by rw [HWR.out,World.drewN_drewN],fun j h1 h2 => by
         by_cases e:j = k
         ·rw [e]; exact HQ.out
         ·exact HALL.out j h1 (by omega)⟩
        case measure => simp [intOf]; omega
       | false =>
        have hf:allB alnumB s = false:=by
         cases h:allB alnumB s with
         | false => rfl
         | true => have:=all_iff.1 h k hk1 hks; rw [hq] at this; cases this
        rw [bt_eq hks,hq] at hqq
        have HQQ:=hid (fun w' => by have:=hqq w'; rw [<- bt_eq hks] at this; exact this:∀ w',Calls Tryd.prog 70 #[.int .u8 ((s[k]'hks).toNat:Nat)] w' (RetC w' false))
        have HF:=hid hf
        clear hqq hq hf
        go_wp2_with (fail)
        go_quiet ((go_at_call 70; exact Calls.quiet_of_same ((HQQ.out _).mono fun _ _ h => ⟨h.1,h.2.symm⟩)))
        go_wp2_with (fail)
        go_ret
        exact ⟨by rw [HF.out]; rfl,d + nq,by rw [HWR.out,World.drewN_drewN]⟩
      ·have b1:¬ ((k:Int) < (s.size:Int)):=by omega
       have hf:allB alnumB s = true:=all_iff.2 fun j h1 hj => HALL.out j h1 (by omega)
       have HF:=hid hf
       clear hf
       go_wp2_with (fail)
       go_ret
       exact ⟨by rw [HF.out]; rfl,d,HWR.out⟩
  ·have d1:decide ((s.size:Int) < 1) = false:=decide_eq_false (by omega)
   have d2:decide ((16:Int) < (s.size:Int)) = true:=decide_eq_true (by omega)
   have hr:checkB funB alnumB s = false:=by simp [checkB,l2]
   rw [hr]
   clear hr
   go_enter Tryd.func77,Tryd.ntmps77
   go_wp2_with (fail)
   go_quiet (fail)
   go_wp2_with (fail)
   go_ret
   exact ⟨rfl,_,rfl⟩
 ·have d1:decide ((s.size:Int) < 1) = true:=decide_eq_true (by omega)
  have hr:checkB funB alnumB s = false:=by simp [checkB,l1]
  rw [hr]
  clear hr
  go_enter Tryd.func77,Tryd.ntmps77
  go_wp2_with (fail)
  go_quiet (fail)
  go_wp2_with (fail)
  go_ret
  exact ⟨rfl,_,rfl⟩
set_option maxRecDepth 100000 in
set_option maxHeartbeats 4000000 in
theorem check_pred (w:World) (s:ByteArray) (hs:s.size <= maxLen) (a1 a2:Addr) (h1:w.cell? a1 = some (.func (.func 69) #[] #[])) (h2:w.cell? a2 = some (.func (.func 70) #[] #[])) :
  Calls Tryd.prog 77 #[.string s,.pointer (some a1),.pointer (some a2)] w (RetD w (checkB capB alnumB s)):=by
 unfold maxLen at hs
 by_cases l1:1 <= s.size
 ·by_cases l2:s.size <= 16
  ·have d1:decide ((s.size:Int) < 1) = false:=decide_eq_false (by omega)
   have d2:decide ((16:Int) < (s.size:Int)) = false:=decide_eq_false (by omega)
   have hwd:=fun w' => reserved_any w' s
   have hz:(0:Int) < (s.size:Int):=by omega
   have hz2:0 < s.size:=by omega
   have hpp:=fun w' => cap_any w' ((s[0]'hz2).toNat) (by rw [bt_eq]; exact bt_le s 0)
   cases hw:wordB s with
   | true =>
    have hr:checkB capB alnumB s = false:=by simp [checkB,hw]
    rw [hr]
    rw [hw] at hwd
    have HWD:=hid hwd
    have HP:=hid hpp
    clear hwd hw hr hpp
    go_enter Tryd.func77,Tryd.ntmps77
    go_wp2_with (fail)
    go_quiet (first
     | (go_at_call 78; exact Calls.quiet_of_same ((HWD.out _).mono fun _ _ h => ⟨h.1,h.2.symm⟩))
     | (go_at_call 69; exact Calls.quiet_of_same ((HP.out _).mono fun _ _ h => ⟨h.1,h.2.symm⟩)))
    go_wp2_with (fail)
    go_ret
    exact ⟨rfl,_,rfl⟩
   | false =>
    cases hp:capB (bt s 0) with
    | false =>
     have hr:checkB capB alnumB s = false:=by simp [checkB,hp]
     rw [hr]
     rw [hw] at hwd
     rw [bt_eq hz2,hp] at hpp
     have HWD:=hid hwd
     have HP:=hid (fun w' => by have:=hpp w'; rw [<- bt_eq hz2] at this; exact this:∀ w',Calls Tryd.prog 69 #[.int .u8 ((s[0]'hz2).toNat:Nat)] w' (RetC w' false))
     clear hwd hw hr hpp hp
     go_enter Tryd.func77,Tryd.ntmps77
     go_wp2_with (fail)
     go_quiet (first
      | (go_at_call 78; exact Calls.quiet_of_same ((HWD.out _).mono fun _ _ h => ⟨h.1,h.2.symm⟩))
      | (go_at_call 69; exact Calls.quiet_of_same ((HP.out _).mono fun _ _ h => ⟨h.1,h.2.symm⟩)))
     go_wp2_with (fail)
     go_ret
     exact ⟨rfl,_,rfl⟩
    | true =>
     have hr:checkB capB alnumB s = allB alnumB s:=by simp [checkB,hp,hw,l1,l2]
     rw [hr]
     rw [hw] at hwd
     rw [bt_eq hz2,hp] at hpp
     have HWD:=hid hwd
     have HP:=hid (fun w' => by have:=hpp w'; rw [<- bt_eq hz2] at this; exact this:∀ w',Calls Tryd.prog 69 #[.int .u8 ((s[0]'hz2).toNat:Nat)] w' (RetC w' true))
     clear hwd hw hr hpp hp
     go_enter Tryd.func77,Tryd.ntmps77
     go_wp2_with (fail)
     go_quiet (first
      | (go_at_call 78; exact Calls.quiet_of_same ((HWD.out _).mono fun _ _ h => ⟨h.1,h.2.symm⟩))
      | (go_at_call 69; exact Calls.quiet_of_same ((HP.out _).mono fun _ _ h => ⟨h.1,h.2.symm⟩)))
     go_wp2_with (fail)
     go_loopw [5] (fun i wr => ∃ k d:Nat,1 <= k /\ k <= s.size /\ i = .int .i64 k /\ wr = w.drewN d /\ ∀ j,1 <= j -> j < k -> alnumB (bt s j) = true) (fun i _ => s.size - (intOf i).toNat)
     case atStart => exact ⟨1,_,by omega,by omega,rfl,rfl,fun j h1 h2 => by omega⟩
     case round =>
      obtain ⟨k,d,hk1,hk,rfl,hwr,hall⟩:=hrel
      have g2:wr.cell? a2 = some (.func (.func 70) #[] #[]):=by rw [hwr]; exact h2
      have HWR:=hid hwr
      have HALL:=hid hall
      clear hwr hall h1 h2
      by_cases hks:k < s.size
      ·have b0:(0:Int) <= (k:Int):=by omega
       have b1:(k:Int) < (s.size:Int):=by omega
       have hqq:=fun w' => salnum_any w' ((s[k]'hks).toNat) (by rw [bt_eq]; exact bt_le s k)
       cases hq:alnumB (bt s k) with
       | true =>
        have HQ:=hid hq
        rw [bt_eq hks,hq] at hqq
        have HQQ:=hid (fun w' => by have:=hqq w'; rw [<- bt_eq hks] at this; exact this:∀ w',Calls Tryd.prog 70 #[.int .u8 ((s[k]'hks).toNat:Nat)] w' (RetC w' true))
        clear hqq hq
        go_wp2_with (fail)
        go_quiet ((go_at_call 70; exact Calls.quiet_of_same ((HQQ.out _).mono fun _ _ h => ⟨h.1,h.2.symm⟩)))
        go_wp2_with (fail)
        go_roundw
        case rel => exact ⟨k + 1,d + nq,by omega,by omega,by go_num,by rw [HWR.out,World.drewN_drewN],fun j h1 h2 => by
         by_cases e:j = k
         ·rw [e]; exact HQ.out
         ·exact HALL.out j h1 (by omega)⟩
        case measure => simp [intOf]; omega
       | false =>
        have hf:allB alnumB s = false:=by
         cases h:allB alnumB s with
         | false => rfl
         | true => have:=all_iff.1 h k hk1 hks; rw [hq] at this; cases this
        rw [bt_eq hks,hq] at hqq
        have HQQ:=hid (fun w' => by have:=hqq w'; rw [<- bt_eq hks] at this; exact this:∀ w',Calls Tryd.prog 70 #[.int .u8 ((s[k]'hks).toNat:Nat)] w' (RetC w' false))
        have HF:=hid hf
        clear hqq hq hf
        go_wp2_with (fail)
        go_quiet ((go_at_call 70; exact Calls.quiet_of_same ((HQQ.out _).mono fun _ _ h => ⟨h.1,h.2.symm⟩)))
        go_wp2_with (fail)
        go_ret
        exact ⟨by rw [HF.out]; rfl,d + nq,by rw [HWR.out,World.drewN_drewN]⟩
      ·have b1:¬ ((k:Int) < (s.size:Int)):=by omega
       have hf:allB alnumB s = true:=all_iff.2 fun j h1 hj => HALL.out j h1 (by omega)
       have HF:=hid hf
       clear hf
       go_wp2_with (fail)
       go_ret
       exact ⟨by rw [HF.out]; rfl,d,HWR.out⟩
  ·have d1:decide ((s.size:Int) < 1) = false:=decide_eq_false (by omega)
   have d2:decide ((16:Int) < (s.size:Int)) = true:=decide_eq_true (by omega)
   have hr:checkB capB alnumB s = false:=by simp [checkB,l2]
   rw [hr]
   clear hr
   go_enter Tryd.func77,Tryd.ntmps77
   go_wp2_with (fail)
   go_quiet (fail)
   go_wp2_with (fail)
   go_ret
   exact ⟨rfl,_,rfl⟩
 ·have d1:decide ((s.size:Int) < 1) = true:=decide_eq_true (by omega)
  have hr:checkB capB alnumB s = false:=by simp [checkB,l1]
  rw [hr]
  clear hr
  go_enter Tryd.func77,Tryd.ntmps77
  go_wp2_with (fail)
  go_quiet (fail)
  go_wp2_with (fail)
  go_ret
  exact ⟨rfl,_,rfl⟩
end Go.Proofs.YtflmllablfjfeaaDoor
namespace Go.Proofs.YtflmllablfjfeaaDoor
open Go.RowKit
set_option linter.unusedVariables false
set_option linter.unusedSimpArgs false
set_option linter.unusedSectionVars false
def RetW (w:World) (b:Bool) (e:Ending) (w':World):Prop:=e = .returned (.bool b) /\ Below w.heap.size w w'
theorem below_drewN {B:Nat} {a w:World} (h:Below B a w) (n:Nat):Below B a (w.drewN n):=⟨h.os,h.tape,h.output,h.size,h.block⟩
theorem blk_new (w:World) (o:Obj):(w.alloc o).heap[w.heap.size]? = some o:=by
 show (w.heap.push o)[w.heap.size]? = some o
 simp
theorem blk_cell {w:World} {b:Nat} {cs:Array Value} {t:TypeId} (h:w.heap[b]? = some (.cells cs t (0,0))) (i:Nat):w.cell? ⟨b,i,none⟩ = cs[i]?:=by
 simp [World.cell?,h]
def chkW (w:World) (F O:Nat):World:=(w.alloc (.cells #[.func (.func F) #[] #[]] 104)).alloc (.cells #[.func (.func O) #[] #[]] 104)
theorem chkW_below (w:World) (F O:Nat):Below w.heap.size w (chkW w F O):=((Below.refl _ w).alloc (Nat.le_refl _) _).alloc (by simp) _
theorem chkW_1 (w:World) (F O:Nat):(chkW w F O).cell? ⟨w.heap.size,0,none⟩ = some (.func (.func F) #[] #[]):=by
 have h1:=blk_new w (.cells #[.func (.func F) #[] #[]] 104)
 have h2:=(Below.heap_alloc (w.alloc (.cells #[.func (.func F) #[] #[]] 104)) (.cells #[.func (.func O) #[] #[]] 104) w.heap.size (by simp)).trans h1
 exact blk_cell h2 0
theorem chkW_2 (w:World) (F O:Nat):(chkW w F O).cell? ⟨w.heap.size + 1,0,none⟩ = some (.func (.func O) #[] #[]):=by
 have h1:=blk_new (w.alloc (.cells #[.func (.func F) #[] #[]] 104)) (.cells #[.func (.func O) #[] #[]] 104)
 rw [World.size_alloc] at h1
 exact blk_cell h1 0
set_option maxRecDepth 100000 in
theorem checker_any (w:World) (F O:Nat):Calls Tryd.prog 68 #[.func (.func F) #[] #[],.func (.func O) #[] #[]] w fun e w' => e = .returned (.func (.func 77) #[] #[.pointer (some ⟨w.heap.size,0,none⟩),.pointer (some ⟨w.heap.size + 1,0,none⟩)]) /\ chkW w F O = w':=by
 go_enter Tryd.func68,Tryd.ntmps68
 go_wp2
 go_ret
 exact ⟨rfl,rfl⟩
set_option maxRecDepth 100000 in
set_option maxHeartbeats 1000000 in
theorem variable_any (w:World) (s:ByteArray) (hs:s.size <= maxLen):Calls Tryd.prog 88 #[.string s] w (RetW w (checkB varB digitB s)):=by
 have hc:=check_var (chkW w 92 80) s hs _ _ (chkW_1 w 92 80) (chkW_2 w 92 80)
 have HC:=Lib.hid hc
 clear hc
 go_enter Tryd.func88,Tryd.ntmps88
 go_wp2_with (first
  | (go_at_call 68; (refine (checker_any w 92 80).mono ?_; rintro e w' ⟨rfl,rfl⟩))
  | (go_at_call 77; (refine HC.out.mono ?_; rintro e w' ⟨rfl,d,rfl⟩)))
 go_ret
 exact ⟨rfl,below_drewN (chkW_below w 92 80) d⟩
set_option maxRecDepth 100000 in
set_option maxHeartbeats 1000000 in
theorem function_any (w:World) (s:ByteArray) (hs:s.size <= maxLen):Calls Tryd.prog 94 #[.string s] w (RetW w (checkB funB alnumB s)):=by
 have hc:=check_fun (chkW w 96 70) s hs _ _ (chkW_1 w 96 70) (chkW_2 w 96 70)
 have HC:=Lib.hid hc
 clear hc
 go_enter Tryd.func94,Tryd.ntmps94
 go_wp2_with (first
  | (go_at_call 68; (refine (checker_any w 96 70).mono ?_; rintro e w' ⟨rfl,rfl⟩))
  | (go_at_call 77; (refine HC.out.mono ?_; rintro e w' ⟨rfl,d,rfl⟩)))
 go_ret
 exact ⟨rfl,below_drewN (chkW_below w 96 70) d⟩
set_option maxRecDepth 100000 in
set_option maxHeartbeats 1000000 in
theorem predicate_any (w:World) (s:ByteArray) (hs:s.size <= maxLen):Calls Tryd.prog 43 #[.string s] w (RetW w (checkB capB alnumB s)):=by
 have hc:=check_pred (chkW w 69 70) s hs _ _ (chkW_1 w 69 70) (chkW_2 w 69 70)
 have HC:=Lib.hid hc
 clear hc
 go_enter Tryd.func43,Tryd.ntmps43
 go_wp2_with (first
  | (go_at_call 68; (refine (checker_any w 69 70).mono ?_; rintro e w' ⟨rfl,rfl⟩))
  | (go_at_call 77; (refine HC.out.mono ?_; rintro e w' ⟨rfl,d,rfl⟩)))
 go_ret
 exact ⟨rfl,below_drewN (chkW_below w 69 70) d⟩
def prefB (p s:ByteArray):Bool:=decide (p.size <= s.size) && decide (bys (s.extract 0 p.size) = bys p)
theorem bys_inj {a b:ByteArray}:bys a = bys b ↔ a = b:=by
 constructor
 ·intro h
  rw [bys_eq.1 h]
  exact bys_eq.1 rfl |>.symm ▸ rfl
 ·rintro rfl; rfl
set_option maxRecDepth 100000 in
set_option maxHeartbeats 1000000 in
theorem pref50 (w:World) (s p:ByteArray) (hs:s.size <= maxLen) (hp:p.size <= maxLen):Calls Tryd.prog 95 #[.string s,.string p] w (RetC w (prefB p s)):=by
 unfold maxLen at hs hp
 by_cases h1:p.size <= s.size
 ·have d1:decide (p.size <= s.size) = true:=decide_eq_true h1
  by_cases h2:s.extract 0 p.size = p
  ·have hr:prefB p s = true:=by simp [prefB,h1,h2]
   have e:((s.extract 0 p.size).toList == p.toList) = true:=by rw [h2]; simp
   have HR:=Lib.hid hr
   clear h2 hr
   go_enter Tryd.func95,Tryd.ntmps95
   go_wp2
   go_ret
   exact ⟨by rw [HR.out]; rfl,rfl⟩
  ·have hr:prefB p s = false:=by simp [prefB,h1,bys_inj,h2]
   have e:=bytes_ne h2
   have HR:=Lib.hid hr
   clear h2 hr
   go_enter Tryd.func95,Tryd.ntmps95
   go_wp2
   go_ret
   exact ⟨by rw [HR.out]; rfl,rfl⟩
 ·have d1:decide (p.size <= s.size) = false:=decide_eq_false h1
  have hr:prefB p s = false:=by simp [prefB,h1]
  have HR:=Lib.hid hr
  clear hr
  go_enter Tryd.func95,Tryd.ntmps95
  go_wp2
  go_ret
  exact ⟨by rw [HR.out]; rfl,rfl⟩
set_option maxRecDepth 100000 in
theorem hasPrefix_any (w:World) (s p:ByteArray) (hs:s.size <= maxLen) (hp:p.size <= maxLen):Calls Tryd.prog 93 #[.string s,.string p] w (RetC w (prefB p s)):=by
 go_enter Tryd.func93,Tryd.ntmps93
 go_wp2_with (go_at_call 95; (refine (pref50 w s p hs hp).mono ?_; rintro e w' ⟨rfl,rfl⟩))
 go_ret
 exact ⟨rfl,rfl⟩
def fmB (s:ByteArray):Bool:=decide (s.size <= 16) && prefB ⟨#[63]⟩ s && checkB capB alnumB (s.extract 1 s.size)
set_option maxRecDepth 100000 in
set_option maxHeartbeats 1000000 in
theorem formMeta_any (w:World) (s:ByteArray) (hs:s.size <= maxLen):Calls Tryd.prog 89 #[.string s] w (RetW w (fmB s)):=by
 have hpf:=hasPrefix_any w s ⟨#[63]⟩ hs (by decide)
 have hx:(s.extract 1 s.size).size <= maxLen:=by rw [ByteArray.size_extract]; omega
 have hck:=predicate_any w (s.extract 1 s.size) hx
 have hs':=hs
 unfold maxLen at hs'
 by_cases h1:s.size <= 16
 ·have d1:decide (s.size <= 16) = true:=decide_eq_true h1
  cases h2:prefB ⟨#[63]⟩ s with
  | true =>
   have h3:1 <= s.size:=by
    have:=h2
    simp only [prefB,Bool.and_eq_true,decide_eq_true_eq] at this
    exact this.1
   have hr:fmB s = checkB capB alnumB (s.extract 1 s.size):=by simp [fmB,h1,h2]
   rw [hr]
   rw [h2] at hpf
   have HPF:=Lib.hid hpf
   have HCK:=Lib.hid hck
   clear hr h2 hpf hck hx
   go_enter Tryd.func89,Tryd.ntmps89
   go_wp2_with (first
    | (go_at_call 93; (refine HPF.out.mono ?_; rintro e w' ⟨rfl,rfl⟩))
    | (go_at_call 43; (refine HCK.out.mono ?_; rintro e w' ⟨rfl,hB⟩)))
   go_ret
   exact ⟨rfl,hB⟩
  | false =>
   have hr:fmB s = false:=by simp [fmB,h2]
   rw [hr]
   rw [h2] at hpf
   have HPF:=Lib.hid hpf
   clear hr h2 hpf hck hx
   go_enter Tryd.func89,Tryd.ntmps89
   go_wp2_with (go_at_call 93; (refine HPF.out.mono ?_; rintro e w' ⟨rfl,rfl⟩))
   go_ret
   exact ⟨rfl,Below.refl _ _⟩
 ·have d1:decide (s.size <= 16) = false:=decide_eq_false h1
  have hr:fmB s = false:=by simp [fmB,h1]
  rw [hr]
  clear hr hpf hck hx
  go_enter Tryd.func89,Tryd.ntmps89
  go_wp2
  go_ret
  exact ⟨rfl,Below.refl _ _⟩
end Go.Proofs.YtflmllablfjfeaaDoor
