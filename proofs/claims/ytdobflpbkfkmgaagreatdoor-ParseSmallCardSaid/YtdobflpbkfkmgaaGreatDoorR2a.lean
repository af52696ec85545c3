import Derived.Test.YtdobflpbkfkmgaaGreatDoorLexZ
namespace Go.Proofs.YtdobflpbkfkmgaaGreatDoor
open Go.RowKit Lib
set_option linter.unusedVariables false
set_option linter.unusedSimpArgs false
set_option linter.unusedSectionVars false
set_option maxRecDepth 100000 in
theorem in_call (w:World) (c lo hi:Int):Calls Tryz.prog 104 #[.int .u8 c,.int .u8 lo,.int .u8 hi] w (RetC w (decide (lo <= c) && decide (c <= hi))):=by
 by_cases h1:lo <= c
 ·by_cases h2:c <= hi
  ·have hr:(decide (lo <= c) && decide (c <= hi)) = true:=by simp [h1,h2]
   rw [hr]
   go_enter Tryz.func104,Tryz.ntmps104
   go_wp2
   go_ret
   exact ⟨rfl,rfl⟩
  ·have hr:(decide (lo <= c) && decide (c <= hi)) = false:=by simp [h2]
   rw [hr]
   go_enter Tryz.func104,Tryz.ntmps104
   go_wp2
   go_ret
   exact ⟨rfl,rfl⟩
 ·have hr:(decide (lo <= c) && decide (c <= hi)) = false:=by simp [h1]
  rw [hr]
  go_enter Tryz.func104,Tryz.ntmps104
  go_wp2
  go_ret
  exact ⟨rfl,rfl⟩
def lqB (d:Bool):Nat -> Bool:=if d then digitB else alnumB
def lettersB (d:Bool) (s:ByteArray):Bool:=decide (1 <= s.size) && decide (s.size <= 16) && allB (lqB d) s
theorem lq_eq (d:Bool) (c:Nat):lqB d c = ((decide ((48:Int) <= (c:Int)) && decide ((c:Int) <= 57)) || (!d && ((decide ((65:Int) <= (c:Int)) && decide ((c:Int) <= 90)) || (decide ((97:Int) <= (c:Int)) && decide ((c:Int) <= 122))))):=by
 have e:∀ a b:Nat,decide ((a:Int) <= (b:Int)) = decide (a <= b):=fun a b => by simp
 rw [show (48:Int) = ((48:Nat):Int) from rfl,show (57:Int) = ((57:Nat):Int) from rfl,show (65:Int) = ((65:Nat):Int) from rfl,show (90:Int) = ((90:Nat):Int) from rfl,show (97:Int) = ((97:Nat):Int) from rfl,show (122:Int) = ((122:Nat):Int) from rfl,e,e,e,e,e,e]
 unfold lqB
 cases d
 ·simp only [alnumB,letterB,smallB,capB,digitB,Bool.not_false,Bool.true_and,Bool.false_eq_true,if_false]
  cases decide (48 <= c) <;> cases decide (c <= 57) <;> cases decide (65 <= c) <;> cases decide (c <= 90) <;> cases decide (97 <= c) <;> cases decide (c <= 122) <;> rfl
 ·simp [digitB]
set_option maxRecDepth 100000 in
set_option maxHeartbeats 2000000 in
theorem letters_call (w:World) (s:ByteArray) (d:Bool) (hs:s.size <= maxLen):Calls Tryz.prog 103 #[.string s,.bool d] w (RetC w (lettersB d s)):=by
 have hsz:(s.size:Int) <= 9223372036854775807:=by have:maxLen = 9223372036854775807:=rfl; omega
 obtain ⟨R,hR⟩:∃ R,R = lettersB d s:=⟨_,rfl⟩
 rw [<- hR]
 have HR:=hid hR
 clear hR hs
 go_enter Tryz.func103,Tryz.ntmps103
 go_wp2_with (fail)
 go_loopw [5] (fun i wr => ∃ k:Nat,1 <= k /\ (k <= s.size ∨ k = 1) /\ i = .int .i64 k /\ w = wr /\ ∀ j,1 <= j -> j < k -> lqB d (bt s j) = true) (fun i _ => s.size - (intOf i).toNat)
 case atStart => exact ⟨1,by omega,by omega,rfl,rfl,fun j h1 h2 => by omega⟩
 case round =>
  obtain ⟨k,hk1,hk,rfl,hw,hall⟩:=hrel
  have HALL:=hid hall
  have HW:=hid hw
  clear hall hw
  by_cases hks:k < s.size
  ·have b0:(0:Int) <= (k:Int):=by omega
   have b1:(k:Int) < (s.size:Int):=by omega
   have hq:=lq_eq d ((s[k]'hks).toNat)
   obtain ⟨q1,e1⟩:∃ q,q = (decide ((48:Int) <= ((s[k]'hks).toNat:Int)) && decide (((s[k]'hks).toNat:Int) <= 57)):=⟨_,rfl⟩
   obtain ⟨q2,e2⟩:∃ q,q = (decide ((65:Int) <= ((s[k]'hks).toNat:Int)) && decide (((s[k]'hks).toNat:Int) <= 90)):=⟨_,rfl⟩
   obtain ⟨q3,e3⟩:∃ q,q = (decide ((97:Int) <= ((s[k]'hks).toNat:Int)) && decide (((s[k]'hks).toNat:Int) <= 122)):=⟨_,rfl⟩
   rw [<- e1,<- e2,<- e3,bt_eq hks] at hq
   have hi1:=in_call wr ((s[k]'hks).toNat:Int) 48 57
   have hi2:=in_call wr ((s[k]'hks).toNat:Int) 65 90
   have hi3:=in_call wr ((s[k]'hks).toNat:Int) 97 122
   rw [<- e1] at hi1
   rw [<- e2] at hi2
   rw [<- e3] at hi3
   have HQ:=hid hq
   have H1:=hid hi1
   have H2:=hid hi2
   have H3:=hid hi3
   clear hq e1 e2 e3 hi1 hi2 hi3
   have HBAD:Hid (lqB d (bt s k) = false -> R = false):=hid fun h => by
    rw [HR.out]
    have:allB (lqB d) s = false:=by
     cases h9:allB (lqB d) s with
     | false => rfl
     | true => have:=all_iff.1 h9 k hk1 hks; rw [h] at this; cases this
    simp [lettersB,this]
   have HGO:Hid (lqB d (bt s k) = true -> ∀ j,1 <= j -> j < k + 1 -> lqB d (bt s j) = true):=hid fun h j h1 h2 => by
    by_cases e:j = k
    ·rw [e]; exact h
    ·exact HALL.out j h1 (by omega)
   rcases q1 with _ | _ <;> rcases d with _ | _ <;> rcases q2 with _ | _ <;> rcases q3 with _ | _
   all_goals (
    go_wp2_with (first
     | (go_at_call 104; ((with_reducible refine H1.out.mono ?_); rintro e w2 ⟨rfl,rfl⟩))
     | (go_at_call 104; ((with_reducible refine H2.out.mono ?_); rintro e w2 ⟨rfl,rfl⟩))
     | (go_at_call 104; ((with_reducible refine H3.out.mono ?_); rintro e w2 ⟨rfl,rfl⟩)))
    first
     | (go_ret; exact ⟨by rw [HBAD.out (by rw [HQ.out]; rfl)]; rfl,HW.out⟩)
     | (
      go_roundw
      case rel => exact ⟨k + 1,by omega,by omega,by go_num,HW.out,HGO.out (by rw [HQ.out]; rfl)⟩
      case measure => simp [intOf]; omega))
  ·have b1:¬ (k:Int) < (s.size:Int):=by omega
   have hall:allB (lqB d) s = true:=all_iff.2 fun j h1 h2 => HALL.out j h1 (by omega)
   have hr:R = (decide (1 <= s.size) && decide (s.size <= 16)):=by rw [HR.out]; simp [lettersB,hall]
   have HR2:=hid hr
   clear hall hr
   by_cases h0:(0:Int) < (s.size:Int)
   ·by_cases h16:(s.size:Int) <= 16
    ·have H16:=hid h16
     go_wp2_with (fail)
     go_ret
     exact ⟨by rw [HR2.out,decide_eq_true (by omega),decide_eq_true (by have:=H16.out; omega)]; rfl,HW.out⟩
    ·have H16:=hid h16
     go_wp2_with (fail)
     go_ret
     exact ⟨by rw [HR2.out,decide_eq_true (by omega),decide_eq_false (by have:=H16.out; omega)]; rfl,HW.out⟩
   ·go_wp2_with (fail)
    go_ret
    exact ⟨by rw [HR2.out,decide_eq_false (by omega)]; rfl,HW.out⟩
set_option maxRecDepth 100000 in
set_option maxHeartbeats 2000000 in
theorem variable_call (w:World) (s:ByteArray) (hs:s.size <= maxLen):Calls Tryz.prog 66 #[.string s] w (RetC w (checkB varB digitB s)):=by
 have hl:=letters_call w s true hs
 obtain ⟨R,hR⟩:∃ R,R = checkB varB digitB s:=⟨_,rfl⟩
 rw [<- hR]
 have HR:=hid hR
 rcases hL:lettersB true s with _ | _
 ·have hr:R = false:=by
   rw [hR]
   unfold checkB
   unfold lettersB lqB at hL
   simp only [if_true,if_false,Bool.false_eq_true] at hL
   revert hL
   cases decide (1 <= s.size) <;> cases decide (s.size <= 16) <;> cases allB digitB s <;> simp
  rw [hL] at hl
  have H:=hid hl
  have HR2:=hid hr
  clear hl hL hR hr hs
  go_enter Tryz.func66,Tryz.ntmps66
  go_wp2_with (go_at_call 103; ((with_reducible refine H.out.mono ?_); rintro e w2 ⟨rfl,rfl⟩))
  go_ret
  exact ⟨by rw [HR2.out]; rfl,rfl⟩
 ·have hp:lettersB true s = true /\ 1 <= s.size /\ s.size <= 16 /\ allB digitB s = true:=by
   refine ⟨hL,?_⟩
   unfold lettersB lqB at hL
   simp only [if_true,if_false,Bool.false_eq_true,Bool.and_eq_true,decide_eq_true_eq] at hL
   exact ⟨hL.1.1,hL.1.2,hL.2⟩
  obtain ⟨_,h1,h16,hA⟩:=hp
  have hi:=in_call w ((s[0]'(by omega)).toNat:Int) 117 122
  have hz:0 < s.size:=h1
  have hz2:(0:Int) < (s.size:Int):=by omega
  obtain ⟨b,hb⟩:∃ b,b = (decide ((117:Int) <= ((s[0]'(by omega)).toNat:Int)) && decide (((s[0]'(by omega)).toNat:Int) <= 122)):=⟨_,rfl⟩
  rw [<- hb] at hi
  have hbp:b = varB (bt s 0):=by
   rw [hb,<- bt_eq hz]
   unfold varB
   congr 1 <;> (apply decide_eq_decide.2; omega)
  have hw:wordB s = false:=by
   cases h:wordB s with
   | false => rfl
   | true =>
    exfalso
    unfold wordB at h
    have h:=of_decide_eq_true h
    have h2:=all_iff.1 hA 1
    have hbs:s.size = (bys s).length:=rfl
    unfold bt at h2
    simp only [wordsD,List.mem_cons,List.mem_nil_iff,or_false] at h
    rcases h with h | h | h | h | h | h <;> (rw [hbs,h] at h2; have h3:=h2 (by decide) (by decide); revert h3; decide)
  have hr:R = b:=by
   rw [hR,hbp]
   unfold checkB
   rw [decide_eq_true h1,decide_eq_true h16,hA]
   rw [hw]; simp
  rw [hL] at hl
  have H:=hid hl
  have HI:=hid hi
  have HR2:=hid hr
  clear hl hL hR hr hs hi hb hbp hA hw
  rcases b with _ | _
  all_goals (
   go_enter Tryz.func66,Tryz.ntmps66
   go_wp2_with (first | (go_at_call 103; ((with_reducible refine H.out.mono ?_); rintro e w2 ⟨rfl,rfl⟩)) | (go_at_call 104; ((with_reducible refine HI.out.mono ?_); rintro e w2 ⟨rfl,rfl⟩)))
   go_ret
   exact ⟨by rw [HR2.out]; rfl,rfl⟩)
set_option maxRecDepth 100000 in
set_option maxHeartbeats 2000000 in
theorem predicate_call (w:World) (s:ByteArray) (hs:s.size <= maxLen):Calls Tryz.prog 101 #[.string s] w (RetC w (checkB capB alnumB s)):=by
 have hl:=letters_call w s false hs
 obtain ⟨R,hR⟩:∃ R,R = checkB capB alnumB s:=⟨_,rfl⟩
 rw [<- hR]
 have HR:=hid hR
 rcases hL:lettersB false s with _ | _
 ·have hr:R = false:=by
   rw [hR]
   unfold checkB
   unfold lettersB lqB at hL
   simp only [if_true,if_false,Bool.false_eq_true] at hL
   revert hL
   cases decide (1 <= s.size) <;> cases decide (s.size <= 16) <;> cases allB alnumB s <;> simp
  rw [hL] at hl
  have H:=hid hl
  have HR2:=hid hr
  clear hl hL hR hr hs
  go_enter Tryz.func101,Tryz.ntmps101
  go_wp2_with (go_at_call 103; ((with_reducible refine H.out.mono ?_); rintro e w2 ⟨rfl,rfl⟩))
  go_ret
  exact ⟨by rw [HR2.out]; rfl,rfl⟩
 ·have hp:lettersB false s = true /\ 1 <= s.size /\ s.size <= 16 /\ allB alnumB s = true:=by
   refine ⟨hL,?_⟩
   unfold lettersB lqB at hL
   simp only [if_true,if_false,Bool.false_eq_true,Bool.and_eq_true,decide_eq_true_eq] at hL
   exact ⟨hL.1.1,hL.1.2,hL.2⟩
  obtain ⟨_,h1,h16,hA⟩:=hp
  have hi:=in_call w ((s[0]'(by omega)).toNat:Int) 65 90
  have hz:0 < s.size:=h1
  have hz2:(0:Int) < (s.size:Int):=by omega
  obtain ⟨b,hb⟩:∃ b,b = (decide ((65:Int) <= ((s[0]'(by omega)).toNat:Int)) && decide (((s[0]'(by omega)).toNat:Int) <= 90)):=⟨_,rfl⟩
  rw [<- hb] at hi
  have hbp:b = capB (bt s 0):=by
   rw [hb,<- bt_eq hz]
   unfold capB
   congr 1 <;> (apply decide_eq_decide.2; omega)
  have hw:capB (bt s 0) = true -> wordB s = false:=fun hc => by
   cases h:wordB s with
   | false => rfl
   | true =>
    exfalso
    unfold wordB at h
    have h:=of_decide_eq_true h
    unfold bt at hc
    simp only [wordsD,List.mem_cons,List.mem_nil_iff,or_false] at h
    rcases h with h | h | h | h | h | h <;> (rw [h] at hc; revert hc; decide)
  have hr:R = b:=by
   rw [hR,hbp]
   unfold checkB
   rw [decide_eq_true h1,decide_eq_true h16,hA]
   cases hc:capB (bt s 0) with | false => simp | true => rw [hw hc]; rfl
  rw [hL] at hl
  have H:=hid hl
  have HI:=hid hi
  have HR2:=hid hr
  clear hl hL hR hr hs hi hb hbp hA hw
  rcases b with _ | _
  all_goals (
   go_enter Tryz.func101,Tryz.ntmps101
   go_wp2_with (first | (go_at_call 103; ((with_reducible refine H.out.mono ?_); rintro e w2 ⟨rfl,rfl⟩)) | (go_at_call 104; ((with_reducible refine HI.out.mono ?_); rintro e w2 ⟨rfl,rfl⟩)))
   go_ret
   exact ⟨by rw [HR2.out]; rfl,rfl⟩)
theorem mk_bysE (s:ByteArray):(⟨(bys s).toArray⟩:ByteArray) = s:=by cases s; simp [bys]
set_option maxRecDepth 100000 in
set_option maxHeartbeats 2000000 in
theorem function_callr (w:World) (s:ByteArray) (hs:s.size <= maxLen):Calls Tryz.prog 67 #[.string s] w (RetC w (checkB funB alnumB s)):=by
 by_cases h0:s = ⟨#[97,108,108]⟩
 ·subst h0
  rw [show checkB funB alnumB ⟨#[97,108,108]⟩ = false by decide +kernel]
  go_enter Tryz.func67,Tryz.ntmps67
  go_wp2
  go_ret
  exact ⟨rfl,rfl⟩
 by_cases h1:s = ⟨#[115,111,109,101]⟩
 ·subst h1
  rw [show checkB funB alnumB ⟨#[115,111,109,101]⟩ = false by decide +kernel]
  go_enter Tryz.func67,Tryz.ntmps67
  go_wp2
  go_ret
  exact ⟨rfl,rfl⟩
 by_cases h2:s = ⟨#[102,97,108,115,101]⟩
 ·subst h2
  rw [show checkB funB alnumB ⟨#[102,97,108,115,101]⟩ = false by decide +kernel]
  go_enter Tryz.func67,Tryz.ntmps67
  go_wp2
  go_ret
  exact ⟨rfl,rfl⟩
 by_cases h3:s = ⟨#[110,101,120,116]⟩
 ·subst h3
  rw [show checkB funB alnumB ⟨#[110,101,120,116]⟩ = false by decide +kernel]
  go_enter Tryz.func67,Tryz.ntmps67
  go_wp2
  go_ret
  exact ⟨rfl,rfl⟩
 by_cases h4:s = ⟨#[97,108,119,97,121,115]⟩
 ·subst h4
  rw [show checkB funB alnumB ⟨#[97,108,119,97,121,115]⟩ = false by decide +kernel]
  go_enter Tryz.func67,Tryz.ntmps67
  go_wp2
  go_ret
  exact ⟨rfl,rfl⟩
 have n0:=bytes_ne h0
 rw [show (⟨#[97,108,108]⟩:ByteArray).toList = [97,108,108] by decide +kernel] at n0
 have n1:=bytes_ne h1
 rw [show (⟨#[115,111,109,101]⟩:ByteArray).toList = [115,111,109,101] by decide +kernel] at n1
 have n2:=bytes_ne h2
 rw [show (⟨#[102,97,108,115,101]⟩:ByteArray).toList = [102,97,108,115,101] by decide +kernel] at n2
 have n3:=bytes_ne h3
 rw [show (⟨#[110,101,120,116]⟩:ByteArray).toList = [110,101,120,116] by decide +kernel] at n3
 have n4:=bytes_ne h4
 rw [show (⟨#[97,108,119,97,121,115]⟩:ByteArray).toList = [97,108,119,97,121,115] by decide +kernel] at n4
 have hl:=letters_call w s false hs
 obtain ⟨R,hR⟩:∃ R,R = checkB funB alnumB s:=⟨_,rfl⟩
 rw [<- hR]
 have HR:=hid hR
 rcases hL:lettersB false s with _ | _
 ·have hr:R = false:=by
   rw [hR]
   unfold checkB
   unfold lettersB lqB at hL
   simp only [if_true,if_false,Bool.false_eq_true] at hL
   revert hL
   cases decide (1 <= s.size) <;> cases decide (s.size <= 16) <;> cases allB alnumB s <;> simp
  rw [hL] at hl
  have H:=hid hl
  have HR2:=hid hr
  clear hl hL hR hr hs
  go_enter Tryz.func67,Tryz.ntmps67
  go_wp2_with (go_at_call 103; ((with_reducible refine H.out.mono ?_); rintro e w2 ⟨rfl,rfl⟩))
  go_ret
  exact ⟨by rw [HR2.out]; rfl,rfl⟩
 ·have hp:lettersB false s = true /\ 1 <= s.size /\ s.size <= 16 /\ allB alnumB s = true:=by
   refine ⟨hL,?_⟩
   unfold lettersB lqB at hL
   simp only [if_true,if_false,Bool.false_eq_true,Bool.and_eq_true,decide_eq_true_eq] at hL
   exact ⟨hL.1.1,hL.1.2,hL.2⟩
  obtain ⟨_,h1p,h16,hA⟩:=hp
  have hi:=in_call w ((s[0]'(by omega)).toNat:Int) 97 116
  have hz:0 < s.size:=h1p
  have hz2:(0:Int) < (s.size:Int):=by omega
  obtain ⟨b,hb⟩:∃ b,b = (decide ((97:Int) <= ((s[0]'(by omega)).toNat:Int)) && decide (((s[0]'(by omega)).toNat:Int) <= 116)):=⟨_,rfl⟩
  rw [<- hb] at hi
  have hbp:b = funB (bt s 0):=by
   rw [hb,<- bt_eq hz]
   unfold funB
   congr 1 <;> (apply decide_eq_decide.2; omega)
  have hw:funB (bt s 0) = true -> wordB s = false:=fun hc => by
   cases h:wordB s with
   | false => rfl
   | true =>
    exfalso
    unfold wordB at h
    have h:=of_decide_eq_true h
    unfold bt at hc
    simp only [wordsD,List.mem_cons,List.mem_nil_iff,or_false] at h
    rcases h with h | h | h | h | h | h
    ·exact h0 (by rw [<- mk_bysE s,h])
    ·exact h1 (by rw [<- mk_bysE s,h])
    ·exact h2 (by rw [<- mk_bysE s,h])
    ·exact h3 (by rw [<- mk_bysE s,h])
    ·exact h4 (by rw [<- mk_bysE s,h])
    ·rw [h] at hc; revert hc; decide
  have hr:R = b:=by
   rw [hR,hbp]
   unfold checkB
   rw [decide_eq_true h1p,decide_eq_true h16,hA]
   cases hc:funB (bt s 0) with | false => simp | true => rw [hw hc]; rfl
  rw [hL] at hl
  have H:=hid hl
  have HI:=hid hi
  have HR2:=hid hr
  clear hl hL hR hr hs hi hb hbp hA hw
  rcases b with _ | _
  all_goals (
   go_enter Tryz.func67,Tryz.ntmps67
   go_wp2_with (first | (go_at_call 103; ((with_reducible refine H.out.mono ?_); rintro e w2 ⟨rfl,rfl⟩)) | (go_at_call 104; ((with_reducible refine HI.out.mono ?_); rintro e w2 ⟨rfl,rfl⟩)))
   go_ret
   exact ⟨by rw [HR2.out]; rfl,rfl⟩)
theorem pref63 (s:ByteArray):prefB ⟨#[63]⟩ s = (decide (1 <= s.size) && decide (bt s 0 = 63)):=by
 have hl:(bys s).length = s.size:=rfl
 rw [prefB_prefL,show bys (⟨#[63]⟩:ByteArray) = [63] from rfl,<- hl]
 unfold bt
 cases h:bys s with
 | nil => rfl
 | cons c r =>
  have e:(63 == c) = decide (c.toNat = 63):=by
   rw [Bool.eq_iff_iff]
   simp only [beq_iff_eq,decide_eq_true_eq]
   constructor
   ·rintro rfl; rfl
   ·intro h2; exact (UInt8.toNat_inj.1 (by rw [h2]; rfl)).symm
  simp [prefL,e]
set_option maxRecDepth 100000 in
set_option maxHeartbeats 2000000 in
theorem ofTerms_call (w:World) (s:ByteArray) (hs:s.size <= maxLen):Calls Tryz.prog 102 #[.string s] w (RetC w (tmB s)):=by
 have hx:(s.extract 1 s.size).size <= maxLen:=by rw [ByteArray.size_extract]; omega
 have hck:=function_callr w (s.extract 1 s.size) hx
 have hs':=hs
 unfold maxLen at hs'
 have hi:(s.size:Int) <= 9223372036854775807:=by omega
 obtain ⟨R,hR⟩:∃ R,R = tmB s:=⟨_,rfl⟩
 rw [<- hR]
 by_cases h1:(1:Int) < (s.size:Int)
 ·by_cases h16:(s.size:Int) <= 16
  ·have hz:0 < s.size:=by omega
   have hz0:(0:Int) < (s.size:Int):=by omega
   have hr:R = ((((s[0]'hz).toNat:Int) == 63) && checkB funB alnumB (s.extract 1 s.size)):=by
    rw [hR]
    unfold tmB
    rw [decide_eq_true (by omega:s.size <= 16),pref63 s,decide_eq_true (by omega:1 <= s.size),<- bt_eq hz]
    have e:decide ((s[0]'hz).toNat = 63) = (((s[0]'hz).toNat:Int) == 63):=by
     rw [Bool.eq_iff_iff]; simp; omega
    rw [e]
    simp
   obtain ⟨q,hq⟩:∃ q,q = checkB funB alnumB (s.extract 1 s.size):=⟨_,rfl⟩
   rw [<- hq] at hr hck
   have HR:=hid hr
   have HCK:=hid hck
   clear hr hck hq hx hs hs' hR
   rcases h63:(((s[0]'hz).toNat:Int) == 63) with _ | _
   ·have HR2:Hid (R = false):=hid (by rw [HR.out,h63]; rfl)
    go_enter Tryz.func102,Tryz.ntmps102
    go_wp2_with (fail)
    go_ret
    exact ⟨by rw [HR2.out]; rfl,rfl⟩
   ·have HR2:Hid (R = q):=hid (by rw [HR.out,h63]; rfl)
    go_enter Tryz.func102,Tryz.ntmps102
    go_wp2_with (go_at_call 67; ((with_reducible refine HCK.out.mono ?_); rintro e w2 ⟨rfl,rfl⟩))
    go_ret
    exact ⟨by rw [HR2.out]; rfl,rfl⟩
  ·have hr:R = false:=by rw [hR]; unfold tmB; rw [decide_eq_false (by omega)]; rfl
   have HR:=hid hr
   clear hr hck hx hs hs' hR
   go_enter Tryz.func102,Tryz.ntmps102
   go_wp2_with (fail)
   go_ret
   exact ⟨by rw [HR.out]; rfl,rfl⟩
 ·have hr:R = false:=by
   rw [hR]
   unfold tmB checkB
   have:(s.extract 1 s.size).size = 0:=by rw [ByteArray.size_extract]; omega
   rw [this]
   simp
  have HR:=hid hr
  clear hr hck hx hs hs' hR
  go_enter Tryz.func102,Tryz.ntmps102
  go_wp2_with (fail)
  go_ret
  exact ⟨by rw [HR.out]; rfl,rfl⟩
set_option maxRecDepth 100000 in
set_option maxHeartbeats 2000000 in
theorem ofForms_call (w:World) (s:ByteArray) (hs:s.size <= maxLen):Calls Tryz.prog 122 #[.string s] w (RetC w (fmB s)):=by
 have hx:(s.extract 1 s.size).size <= maxLen:=by rw [ByteArray.size_extract]; omega
 have hck:=predicate_call w (s.extract 1 s.size) hx
 have hs':=hs
 unfold maxLen at hs'
 have hi:(s.size:Int) <= 9223372036854775807:=by omega
 obtain ⟨R,hR⟩:∃ R,R = fmB s:=⟨_,rfl⟩
 rw [<- hR]
 by_cases h1:(1:Int) < (s.size:Int)
 ·by_cases h16:(s.size:Int) <= 16
  ·have hz:0 < s.size:=by omega
   have hz0:(0:Int) < (s.size:Int):=by omega
   have hr:R = ((((s[0]'hz).toNat:Int) == 63) && checkB capB alnumB (s.extract 1 s.size)):=by
    rw [hR]
    unfold fmB
    rw [decide_eq_true (by omega:s.size <= 16),pref63 s,decide_eq_true (by omega:1 <= s.size),<- bt_eq hz]
    have e:decide ((s[0]'hz).toNat = 63) = (((s[0]'hz).toNat:Int) == 63):=by
     rw [Bool.eq_iff_iff]; simp; omega
    rw [e]
    simp
   obtain ⟨q,hq⟩:∃ q,q = checkB capB alnumB (s.extract 1 s.size):=⟨_,rfl⟩
   rw [<- hq] at hr hck
   have HR:=hid hr
   have HCK:=hid hck
   clear hr hck hq hx hs hs' hR
   rcases h63:(((s[0]'hz).toNat:Int) == 63) with _ | _
   ·have HR2:Hid (R = false):=hid (by rw [HR.out,h63]; rfl)
    go_enter Tryz.func122,Tryz.ntmps122
    go_wp2_with (fail)
    go_ret
    exact ⟨by rw [HR2.out]; rfl,rfl⟩
   ·have HR2:Hid (R = q):=hid (by rw [HR.out,h63]; rfl)
    go_enter Tryz.func122,Tryz.ntmps122
    go_wp2_with (go_at_call 101; ((with_reducible refine HCK.out.mono ?_); rintro e w2 ⟨rfl,rfl⟩))
    go_ret
    exact ⟨by rw [HR2.out]; rfl,rfl⟩
  ·have hr:R = false:=by rw [hR]; unfold fmB; rw [decide_eq_false (by omega)]; rfl
   have HR:=hid hr
   clear hr hck hx hs hs' hR
   go_enter Tryz.func122,Tryz.ntmps122
   go_wp2_with (fail)
   go_ret
   exact ⟨by rw [HR.out]; rfl,rfl⟩
 ·have hr:R = false:=by
   rw [hR]
   unfold fmB checkB
   have:(s.extract 1 s.size).size = 0:=by rw [ByteArray.size_extract]; omega
   rw [this]
   simp
  have HR:=hid hr
  clear hr hck hx hs hs' hR
  go_enter Tryz.func122,Tryz.ntmps122
  go_wp2_with (fail)
  go_ret
  exact ⟨by rw [HR.out]; rfl,rfl⟩
set_option maxRecDepth 100000 in
set_option maxHeartbeats 2000000 in
theorem metar_call (w:World) (s:ByteArray) (hs:s.size <= maxLen):Calls Tryz.prog 100 #[.string s] w (RetC w (metaB s)):=by
 have h1:=ofForms_call w s hs
 have h2:=ofTerms_call w s hs
 unfold metaB
 obtain ⟨a,ha⟩:∃ a,a = fmB s:=⟨_,rfl⟩
 obtain ⟨b,hb⟩:∃ b,b = tmB s:=⟨_,rfl⟩
 rw [<- ha] at h1 ⊢
 rw [<- hb] at h2 ⊢
 have H1:=hid h1
 have H2:=hid h2
 clear h1 h2 ha hb hs
 rcases a with _ | _
 all_goals (
  go_enter Tryz.func100,Tryz.ntmps100
  go_wp2_with (first | (go_at_call 122; ((with_reducible refine H1.out.mono ?_); rintro e w2 ⟨rfl,rfl⟩)) | (go_at_call 102; ((with_reducible refine H2.out.mono ?_); rintro e w2 ⟨rfl,rfl⟩)))
  go_ret
  exact ⟨rfl,rfl⟩)
end Go.Proofs.YtdobflpbkfkmgaaGreatDoor
