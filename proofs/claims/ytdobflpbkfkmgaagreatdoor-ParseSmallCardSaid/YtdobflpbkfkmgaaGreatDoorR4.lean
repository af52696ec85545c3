import Derived.Test.YtdobflpbkfkmgaaGreatDoorR2a
import Derived.Test.YtdobflpbkfkmgaaGreatDoorMpo
namespace Go.Proofs.YtdobflpbkfkmgaaGreatDoor
open Go.RowKit Go.HK Go.FR Lib
set_option linter.unusedVariables false
set_option linter.unusedSimpArgs false
set_option linter.unusedSectionVars false
section
variable (w:World) (c:Nat)
set_option maxRecDepth 100000 in
theorem rletter (hc:c <= 255):Calls Tryz.prog 96 #[.int .u8 c] w (RetC w (letterB c)):=by
 obtain ⟨R,hR⟩:∃ R,letterB c = R:=⟨_,rfl⟩
 rw [hR]
 have HR:=hid hR
 clear hR
 go_enter Tryz.func96,Tryz.ntmps96
 go_wp2
 all_goals (
  go_ret
  rw [<- HR.out]
  refine ⟨congrArg (fun b => Ending.returned (Value.bool b)) (Bool.eq_iff_iff.2 ?_),rfl⟩
  simp [letterB,alnumB,smallB,capB,digitB,blankB,varB,funB,markB, *]
  try omega)
set_option maxRecDepth 100000 in
theorem rdigit (hc:c <= 255):Calls Tryz.prog 98 #[.int .u8 c] w (RetC w (digitB c)):=by
 obtain ⟨R,hR⟩:∃ R,digitB c = R:=⟨_,rfl⟩
 rw [hR]
 have HR:=hid hR
 clear hR
 go_enter Tryz.func98,Tryz.ntmps98
 go_wp2
 all_goals (
  go_ret
  rw [<- HR.out]
  refine ⟨congrArg (fun b => Ending.returned (Value.bool b)) (Bool.eq_iff_iff.2 ?_),rfl⟩
  simp [letterB,alnumB,smallB,capB,digitB,blankB,varB,funB,markB, *]
  try omega)
end
set_option maxRecDepth 100000 in
set_option maxHeartbeats 1000000 in
theorem rword (w:World) (s:ByteArray):Calls Tryz.prog 99 #[.string s] w (RetC w (wordB s)):=by
 by_cases h0:s = ⟨#[97,108,108]⟩
 ·subst h0
  rw [show wordB ⟨#[97,108,108]⟩ = true by decide +kernel]
  go_enter Tryz.func99,Tryz.ntmps99
  go_wp2
  go_ret
  exact ⟨rfl,rfl⟩
 by_cases h1:s = ⟨#[115,111,109,101]⟩
 ·subst h1
  rw [show wordB ⟨#[115,111,109,101]⟩ = true by decide +kernel]
  go_enter Tryz.func99,Tryz.ntmps99
  go_wp2
  go_ret
  exact ⟨rfl,rfl⟩
 by_cases h2:s = ⟨#[102,97,108,115,101]⟩
 ·subst h2
  rw [show wordB ⟨#[102,97,108,115,101]⟩ = true by decide +kernel]
  go_enter Tryz.func99,Tryz.ntmps99
  go_wp2
  go_ret
  exact ⟨rfl,rfl⟩
 by_cases h3:s = ⟨#[110,101,120,116]⟩
 ·subst h3
  rw [show wordB ⟨#[110,101,120,116]⟩ = true by decide +kernel]
  go_enter Tryz.func99,Tryz.ntmps99
  go_wp2
  go_ret
  exact ⟨rfl,rfl⟩
 by_cases h4:s = ⟨#[97,108,119,97,121,115]⟩
 ·subst h4
  rw [show wordB ⟨#[97,108,119,97,121,115]⟩ = true by decide +kernel]
  go_enter Tryz.func99,Tryz.ntmps99
  go_wp2
  go_ret
  exact ⟨rfl,rfl⟩
 by_cases h5:s = ⟨#[117,110,116,105,108]⟩
 ·subst h5
  rw [show wordB ⟨#[117,110,116,105,108]⟩ = true by decide +kernel]
  go_enter Tryz.func99,Tryz.ntmps99
  go_wp2
  go_ret
  exact ⟨rfl,rfl⟩
 have hr:wordB s = false:=by simp only [wordB,wordsD,List.mem_cons,bys_eq,h0,h1,h2,h3,h4,h5,List.not_mem_nil,or_self,decide_false]
 rw [hr]
 have n0:=bytes_ne h0
 rw [show (⟨#[97,108,108]⟩:ByteArray).toList = [97,108,108] by decide +kernel] at n0
 have n1:=bytes_ne h1
 rw [show (⟨#[115,111,109,101]⟩:ByteArray).toList = [115,111,109,101] by decide +kernel] at n1
 have n2:=bytes_ne h2
 rw [show (⟨#[102,97,108,115,101]⟩:ByteArray).toList = [102,97,108,115,101] by decide +kernel] at n2
 have n3:=bytes_ne h3
 rw [show (⟨#[110,101,120,116]⟩:ByteArray).toList = [110,101,120,116] by decide +kernel] at n3
 have n4:=bytes_ne h4
 rw [show (⟨#[97,108,119,97,121,115]⟩:ByteArray).toList = [97,108,119,97,121,115] by decide +kernel] at n4
 have n5:=bytes_ne h5
 rw [show (⟨#[117,110,116,105,108]⟩:ByteArray).toList = [117,110,116,105,108] by decide +kernel] at n5
 clear h0 h1 h2 h3 h4 h5 hr
 go_enter Tryz.func99,Tryz.ntmps99
 go_wp2
 go_ret
 exact ⟨rfl,rfl⟩
set_option maxRecDepth 100000 in
set_option maxHeartbeats 1000000 in
theorem rstarts (w:World) (s p:ByteArray) (hs:s.size <= maxLen) (hp:p.size <= maxLen):Calls Tryz.prog 121 #[.string s,.string p] w (RetC w (prefB p s)):=by
 unfold maxLen at hs hp
 by_cases h1:p.size <= s.size
 ·have d1:decide (p.size <= s.size) = true:=decide_eq_true h1
  by_cases h2:s.extract 0 p.size = p
  ·have hr:prefB p s = true:=by simp [prefB,h1,h2]
   have e:((s.extract 0 p.size).toList == p.toList) = true:=by rw [h2]; simp
   have HR:=hid hr
   clear h2 hr
   go_enter Tryz.func121,Tryz.ntmps121
   go_wp2
   go_ret
   exact ⟨by rw [HR.out]; rfl,rfl⟩
  ·have hr:prefB p s = false:=by simp [prefB,h1,bys_inj,h2]
   have e:=bytes_ne h2
   have HR:=hid hr
   clear h2 hr
   go_enter Tryz.func121,Tryz.ntmps121
   go_wp2
   go_ret
   exact ⟨by rw [HR.out]; rfl,rfl⟩
 ·have d1:decide (p.size <= s.size) = false:=decide_eq_false h1
  have hr:prefB p s = false:=by simp [prefB,h1]
  have HR:=hid hr
  clear hr
  go_enter Tryz.func121,Tryz.ntmps121
  go_wp2
  go_ret
  exact ⟨by rw [HR.out]; rfl,rfl⟩
theorem signL_ref (c:UInt8) (l:List UInt8):(match signL (c :: l) with | some g => g.length | none => 0) = if prefL [60,45,62] (c :: l) = true then 3 else if (prefL [45,62] (c :: l) || prefL [60,62] (c :: l) || prefL [91,93] (c :: l)) = true then 2 else if c = 40 ∨ c = 41 ∨ c = 44 ∨ c = 126 ∨ c = 38 ∨ c = 124 ∨ c = 47 ∨ c = 91 ∨ c = 93 then 1 else 0:=by
 unfold signL signsD
 simp only [List.find?_cons,List.find?_nil]
 generalize prefL [60,45,62] (c :: l) = q1
 generalize prefL [45,62] (c :: l) = q2
 generalize prefL [91,93] (c :: l) = q3
 generalize prefL [60,62] (c :: l) = q4
 cases q1
 case true => rfl
 cases q2
 case true => rfl
 cases q3
 case true => cases q4 <;> rfl
 cases q4
 case true => rfl
 simp only [prefL,Bool.and_true,Bool.or_false,Bool.false_eq_true,if_false]
 by_cases h1:c = 40
 ·subst h1; rfl
 by_cases h2:c = 41
 ·subst h2; rfl
 by_cases h3:c = 44
 ·subst h3; rfl
 by_cases h4:c = 126
 ·subst h4; rfl
 by_cases h5:c = 38
 ·subst h5; rfl
 by_cases h6:c = 124
 ·subst h6; rfl
 by_cases h7:c = 47
 ·subst h7; rfl
 by_cases h8:c = 91
 ·subst h8; rfl
 by_cases h9:c = 93
 ·subst h9; rfl
 have e:∀ x:UInt8,c ≠ x -> (x == c) = false:=fun x h => by simpa using fun e => h e.symm
 rw [e 40 h1,e 41 h2,e 44 h3,e 126 h4,e 38 h5,e 124 h6,e 47 h7,e 91 h8,e 93 h9]
 simp [h1,h2,h3,h4,h5,h6,h7,h8,h9]
def signN (c:UInt8) (l:List UInt8):Nat:=match signL (c :: l) with | some g => g.length | none => 0
theorem at_zero {x:ByteArray} {c:UInt8} {l:List UInt8} (hx:bys x = c :: l):∃ h:0 < x.size,x[0]'h = c:=by
 have hl:(bys x).length = x.size:=rfl
 have h0:0 < x.size:=by rw [<- hl,hx]; simp
 refine ⟨h0,?_⟩
 have h1:(bys x)[0]? = some c:=by rw [hx]; rfl
 have h2:=(List.getElem?_eq_some_iff.1 h1).2
 rw [<- h2]; rfl
def RetNp (w:World) (n:Nat) (e:Ending) (w':World):Prop:=e = .returned (.int .i64 (n:Int)) /\ w = w'
set_option maxRecDepth 100000 in
set_option maxHeartbeats 4000000 in
theorem rsign_call (w:World) (x:ByteArray) (c:UInt8) (l:List UInt8) (hx:bys x = c :: l) (hs:x.size <= maxLen):Calls Tryz.prog 97 #[.string x] w (RetNp w (signN c l)):=by
 have h1:=rstarts w x ⟨#[60,45,62]⟩ hs (by decide)
 have h2:=rstarts w x ⟨#[45,62]⟩ hs (by decide)
 have h3:=rstarts w x ⟨#[60,62]⟩ hs (by decide)
 have h4:=rstarts w x ⟨#[91,93]⟩ hs (by decide)
 rw [prefB_prefL,hx,show bys (⟨#[60,45,62]⟩:ByteArray) = [60,45,62] from rfl] at h1
 rw [prefB_prefL,hx,show bys (⟨#[45,62]⟩:ByteArray) = [45,62] from rfl] at h2
 rw [prefB_prefL,hx,show bys (⟨#[60,62]⟩:ByteArray) = [60,62] from rfl] at h3
 rw [prefB_prefL,hx,show bys (⟨#[91,93]⟩:ByteArray) = [91,93] from rfl] at h4
 obtain ⟨hz,hc⟩:=at_zero hx
 have hz0:(0:Int) < (x.size:Int):=by omega
 obtain ⟨R,hR⟩:∃ R,R = signN c l:=⟨_,rfl⟩
 have hR2:=hR
 unfold signN at hR2
 rw [signL_ref] at hR2
 rw [<- hR]
 obtain ⟨q1,e1⟩:∃ q,q = prefL [60,45,62] (c :: l):=⟨_,rfl⟩
 obtain ⟨q2,e2⟩:∃ q,q = prefL [45,62] (c :: l):=⟨_,rfl⟩
 obtain ⟨q3,e3⟩:∃ q,q = prefL [60,62] (c :: l):=⟨_,rfl⟩
 obtain ⟨q4,e4⟩:∃ q,q = prefL [91,93] (c :: l):=⟨_,rfl⟩
 rw [<- e1] at h1 hR2
 rw [<- e2] at h2 hR2
 rw [<- e3] at h3 hR2
 rw [<- e4] at h4 hR2
 have HR:=hid hR2
 have HC:=hid hc
 have H1:=hid h1
 have H2:=hid h2
 have H3:=hid h3
 have H4:=hid h4
 clear h1 h2 h3 h4 e1 e2 e3 e4 hR hR2 hc hx hs
 rcases q1 with _ | _
 case true =>
  have HR2:Hid (R = 3):=hid (by rw [HR.out]; rfl)
  go_enter Tryz.func97,Tryz.ntmps97
  go_wp2_with (go_at_call 121; ((with_reducible refine H1.out.mono ?_); rintro _ w2 ⟨rfl,rfl⟩))
  go_ret
  exact ⟨by rw [HR2.out]; rfl,rfl⟩
 rcases q2 with _ | _
 case true =>
  have HR2:Hid (R = 2):=hid (by rw [HR.out]; rfl)
  go_enter Tryz.func97,Tryz.ntmps97
  go_wp2_with (first | (go_at_call 121; ((with_reducible refine H1.out.mono ?_); rintro _ w2 ⟨rfl,rfl⟩)) | (go_at_call 121; ((with_reducible refine H2.out.mono ?_); rintro _ w2 ⟨rfl,rfl⟩)))
  go_ret
  exact ⟨by rw [HR2.out]; rfl,rfl⟩
 rcases q3 with _ | _
 case true =>
  have HR2:Hid (R = 2):=hid (by rw [HR.out]; rfl)
  go_enter Tryz.func97,Tryz.ntmps97
  go_wp2_with (first | (go_at_call 121; ((with_reducible refine H1.out.mono ?_); rintro _ w2 ⟨rfl,rfl⟩)) | (go_at_call 121; ((with_reducible refine H2.out.mono ?_); rintro _ w2 ⟨rfl,rfl⟩)) | (go_at_call 121; ((with_reducible refine H3.out.mono ?_); rintro _ w2 ⟨rfl,rfl⟩)))
  go_ret
  exact ⟨by rw [HR2.out]; rfl,rfl⟩
 rcases q4 with _ | _
 case true =>
  have HR2:Hid (R = 2):=hid (by rw [HR.out]; rfl)
  go_enter Tryz.func97,Tryz.ntmps97
  go_wp2_with (first | (go_at_call 121; ((with_reducible refine H1.out.mono ?_); rintro _ w2 ⟨rfl,rfl⟩)) | (go_at_call 121; ((with_reducible refine H2.out.mono ?_); rintro _ w2 ⟨rfl,rfl⟩)) | (go_at_call 121; ((with_reducible refine H3.out.mono ?_); rintro _ w2 ⟨rfl,rfl⟩)) | (go_at_call 121; ((with_reducible refine H4.out.mono ?_); rintro _ w2 ⟨rfl,rfl⟩)))
  go_ret
  exact ⟨by rw [HR2.out]; rfl,rfl⟩
 have hn:∀ k:UInt8,((((x[0]'hz).toNat:Nat):Int) == (k.toNat:Int)) = decide (c = k):=fun k => by
  rw [HC.out,Bool.eq_iff_iff]
  simp only [beq_iff_eq,decide_eq_true_eq,Int.natCast_inj]
  exact UInt8.toNat_inj
 have m0:=hn 40
 rw [show ((((40:UInt8).toNat:Nat)):Int) = 40 from rfl] at m0
 have m1:=hn 41
 rw [show ((((41:UInt8).toNat:Nat)):Int) = 41 from rfl] at m1
 have m2:=hn 44
 rw [show ((((44:UInt8).toNat:Nat)):Int) = 44 from rfl] at m2
 have m3:=hn 126
 rw [show ((((126:UInt8).toNat:Nat)):Int) = 126 from rfl] at m3
 have m4:=hn 38
 rw [show ((((38:UInt8).toNat:Nat)):Int) = 38 from rfl] at m4
 have m5:=hn 124
 rw [show ((((124:UInt8).toNat:Nat)):Int) = 124 from rfl] at m5
 have m6:=hn 47
 rw [show ((((47:UInt8).toNat:Nat)):Int) = 47 from rfl] at m6
 have m7:=hn 91
 rw [show ((((91:UInt8).toNat:Nat)):Int) = 91 from rfl] at m7
 have m8:=hn 93
 rw [show ((((93:UInt8).toNat:Nat)):Int) = 93 from rfl] at m8
 clear hn
 by_cases c0:c = 40
 ·have HR2:Hid (R = 1):=hid (by rw [HR.out,c0]; rfl)
  rw [decide_eq_true c0] at m0
  rw [decide_eq_false (by rw [c0]; decide)] at m1
  rw [decide_eq_false (by rw [c0]; decide)] at m2
  rw [decide_eq_false (by rw [c0]; decide)] at m3
  rw [decide_eq_false (by rw [c0]; decide)] at m4
  rw [decide_eq_false (by rw [c0]; decide)] at m5
  rw [decide_eq_false (by rw [c0]; decide)] at m6
  rw [decide_eq_false (by rw [c0]; decide)] at m7
  rw [decide_eq_false (by rw [c0]; decide)] at m8
  have M0:=m0
  go_enter Tryz.func97,Tryz.ntmps97
  go_wp2_with (first | (go_at_call 121; ((with_reducible refine H1.out.mono ?_); rintro _ w2 ⟨rfl,rfl⟩)) | (go_at_call 121; ((with_reducible refine H2.out.mono ?_); rintro _ w2 ⟨rfl,rfl⟩)) | (go_at_call 121; ((with_reducible refine H3.out.mono ?_); rintro _ w2 ⟨rfl,rfl⟩)) | (go_at_call 121; ((with_reducible refine H4.out.mono ?_); rintro _ w2 ⟨rfl,rfl⟩)))
  go_ret
  exact ⟨by rw [HR2.out]; rfl,rfl⟩
 by_cases c1:c = 41
 ·have HR2:Hid (R = 1):=hid (by rw [HR.out,c1]; rfl)
  rw [decide_eq_true c1] at m1
  rw [decide_eq_false (by rw [c1]; decide)] at m0
  rw [decide_eq_false (by rw [c1]; decide)] at m2
  rw [decide_eq_false (by rw [c1]; decide)] at m3
  rw [decide_eq_false (by rw [c1]; decide)] at m4
  rw [decide_eq_false (by rw [c1]; decide)] at m5
  rw [decide_eq_false (by rw [c1]; decide)] at m6
  rw [decide_eq_false (by rw [c1]; decide)] at m7
  rw [decide_eq_false (by rw [c1]; decide)] at m8
  have M1:=m1
  go_enter Tryz.func97,Tryz.ntmps97
  go_wp2_with (first | (go_at_call 121; ((with_reducible refine H1.out.mono ?_); rintro _ w2 ⟨rfl,rfl⟩)) | (go_at_call 121; ((with_reducible refine H2.out.mono ?_); rintro _ w2 ⟨rfl,rfl⟩)) | (go_at_call 121; ((with_reducible refine H3.out.mono ?_); rintro _ w2 ⟨rfl,rfl⟩)) | (go_at_call 121; ((with_reducible refine H4.out.mono ?_); rintro _ w2 ⟨rfl,rfl⟩)))
  go_ret
  exact ⟨by rw [HR2.out]; rfl,rfl⟩
 by_cases c2:c = 44
 ·have HR2:Hid (R = 1):=hid (by rw [HR.out,c2]; rfl)
  rw [decide_eq_true c2] at m2
  rw [decide_eq_false (by rw [c2]; decide)] at m0
  rw [decide_eq_false (by rw [c2]; decide)] at m1
  rw [decide_eq_false (by rw [c2]; decide)] at m3
  rw [decide_eq_false (by rw [c2]; decide)] at m4
  rw [decide_eq_false (by rw [c2]; decide)] at m5
  rw [decide_eq_false (by rw [c2]; decide)] at m6
  rw [decide_eq_false (by rw [c2]; decide)] at m7
  rw [decide_eq_false (by rw [c2]; decide)] at m8
  have M2:=m2
  go_enter Tryz.func97,Tryz.ntmps97
  go_wp2_with (first | (go_at_call 121; ((with_reducible refine H1.out.mono ?_); rintro _ w2 ⟨rfl,rfl⟩)) | (go_at_call 121; ((with_reducible refine H2.out.mono ?_); rintro _ w2 ⟨rfl,rfl⟩)) | (go_at_call 121; ((with_reducible refine H3.out.mono ?_); rintro _ w2 ⟨rfl,rfl⟩)) | (go_at_call 121; ((with_reducible refine H4.out.mono ?_); rintro _ w2 ⟨rfl,rfl⟩)))
  go_ret
  exact ⟨by rw [HR2.out]; rfl,rfl⟩
 by_cases c3:c = 126
 ·have HR2:Hid (R = 1):=hid (by rw [HR.out,c3]; rfl)
  rw [decide_eq_true c3] at m3
  rw [decide_eq_false (by rw [c3]; decide)] at m0
  rw [decide_eq_false (by rw [c3]; decide)] at m1
  rw [decide_eq_false (by rw [c3]; decide)] at m2
  rw [decide_eq_false (by rw [c3]; decide)] at m4
  rw [decide_eq_false (by rw [c3]; decide)] at m5
  rw [decide_eq_false (by rw [c3]; decide)] at m6
  rw [decide_eq_false (by rw [c3]; decide)] at m7
  rw [decide_eq_false (by rw [c3]; decide)] at m8
  have M3:=m3
  go_enter Tryz.func97,Tryz.ntmps97
  go_wp2_with (first | (go_at_call 121; ((with_reducible refine H1.out.mono ?_); rintro _ w2 ⟨rfl,rfl⟩)) | (go_at_call 121; ((with_reducible refine H2.out.mono ?_); rintro _ w2 ⟨rfl,rfl⟩)) | (go_at_call 121; ((with_reducible refine H3.out.mono ?_); rintro _ w2 ⟨rfl,rfl⟩)) | (go_at_call 121; ((with_reducible refine H4.out.mono ?_); rintro _ w2 ⟨rfl,rfl⟩)))
  go_ret
  exact ⟨by rw [HR2.out]; rfl,rfl⟩
 by_cases c4:c = 38
 ·have HR2:Hid (R = 1):=hid (by rw [HR.out,c4]; rfl)
  rw [decide_eq_true c4] at m4
  rw [decide_eq_false (by rw [c4]; decide)] at m0
  rw [decide_eq_false (by rw [c4]; decide)] at m1
  rw [decide_eq_false (by rw [c4]; decide)] at m2
  rw [decide_eq_false (by rw [c4]; decide)] at m3
  rw [decide_eq_false (by rw [c4]; decide)] at m5
  rw [decide_eq_false (by rw [c4]; decide)] at m6
  rw [decide_eq_false (by rw [c4]; decide)] at m7
  rw [decide_eq_false (by rw [c4]; decide)] at m8
  have M4:=m4
  go_enter Tryz.func97,Tryz.ntmps97
  go_wp2_with (first | (go_at_call 121; ((with_reducible refine H1.out.mono ?_); rintro _ w2 ⟨rfl,rfl⟩)) | (go_at_call 121; ((with_reducible refine H2.out.mono ?_); rintro _ w2 ⟨rfl,rfl⟩)) | (go_at_call 121; ((with_reducible refine H3.out.mono ?_); rintro _ w2 ⟨rfl,rfl⟩)) | (go_at_call 121; ((with_reducible refine H4.out.mono ?_); rintro _ w2 ⟨rfl,rfl⟩)))
  go_ret
  exact ⟨by rw [HR2.out]; rfl,rfl⟩
 by_cases c5:c = 124
 ·have HR2:Hid (R = 1):=hid (by rw [HR.out,c5]; rfl)
  rw [decide_eq_true c5] at m5
  rw [decide_eq_false (by rw [c5]; decide)] at m0
  rw [decide_eq_false (by rw [c5]; decide)] at m1
  rw [decide_eq_false (by rw [c5]; decide)] at m2
  rw [decide_eq_false (by rw [c5]; decide)] at m3
  rw [decide_eq_false (by rw [c5]; decide)] at m4
  rw [decide_eq_false (by rw [c5]; decide)] at m6
  rw [decide_eq_false (by rw [c5]; decide)] at m7
  rw [decide_eq_false (by rw [c5]; decide)] at m8
  have M5:=m5
  go_enter Tryz.func97,Tryz.ntmps97
  go_wp2_with (first | (go_at_call 121; ((with_reducible refine H1.out.mono ?_); rintro _ w2 ⟨rfl,rfl⟩)) | (go_at_call 121; ((with_reducible refine H2.out.mono ?_); rintro _ w2 ⟨rfl,rfl⟩)) | (go_at_call 121; ((with_reducible refine H3.out.mono ?_); rintro _ w2 ⟨rfl,rfl⟩)) | (go_at_call 121; ((with_reducible refine H4.out.mono ?_); rintro _ w2 ⟨rfl,rfl⟩)))
  go_ret
  exact ⟨by rw [HR2.out]; rfl,rfl⟩
 by_cases c6:c = 47
 ·have HR2:Hid (R = 1):=hid (by rw [HR.out,c6]; rfl)
  rw [decide_eq_true c6] at m6
  rw [decide_eq_false (by rw [c6]; decide)] at m0
  rw [decide_eq_false (by rw [c6]; decide)] at m1
  rw [decide_eq_false (by rw [c6]; decide)] at m2
  rw [decide_eq_false (by rw [c6]; decide)] at m3
  rw [decide_eq_false (by rw [c6]; decide)] at m4
  rw [decide_eq_false (by rw [c6]; decide)] at m5
  rw [decide_eq_false (by rw [c6]; decide)] at m7
  rw [decide_eq_false (by rw [c6]; decide)] at m8
  have M6:=m6
  go_enter Tryz.func97,Tryz.ntmps97
  go_wp2_with (first | (go_at_call 121; ((with_reducible refine H1.out.mono ?_); rintro _ w2 ⟨rfl,rfl⟩)) | (go_at_call 121; ((with_reducible refine H2.out.mono ?_); rintro _ w2 ⟨rfl,rfl⟩)) | (go_at_call 121; ((with_reducible refine H3.out.mono ?_); rintro _ w2 ⟨rfl,rfl⟩)) | (go_at_call 121; ((with_reducible refine H4.out.mono ?_); rintro _ w2 ⟨rfl,rfl⟩)))
  go_ret
  exact ⟨by rw [HR2.out]; rfl,rfl⟩
 by_cases c7:c = 91
 ·have HR2:Hid (R = 1):=hid (by rw [HR.out,c7]; rfl)
  rw [decide_eq_true c7] at m7
  rw [decide_eq_false (by rw [c7]; decide)] at m0
  rw [decide_eq_false (by rw [c7]; decide)] at m1
  rw [decide_eq_false (by rw [c7]; decide)] at m2
  rw [decide_eq_false (by rw [c7]; decide)] at m3
  rw [decide_eq_false (by rw [c7]; decide)] at m4
  rw [decide_eq_false (by rw [c7]; decide)] at m5
  rw [decide_eq_false (by rw [c7]; decide)] at m6
  rw [decide_eq_false (by rw [c7]; decide)] at m8
  have M7:=m7
  go_enter Tryz.func97,Tryz.ntmps97
  go_wp2_with (first | (go_at_call 121; ((with_reducible refine H1.out.mono ?_); rintro _ w2 ⟨rfl,rfl⟩)) | (go_at_call 121; ((with_reducible refine H2.out.mono ?_); rintro _ w2 ⟨rfl,rfl⟩)) | (go_at_call 121; ((with_reducible refine H3.out.mono ?_); rintro _ w2 ⟨rfl,rfl⟩)) | (go_at_call 121; ((with_reducible refine H4.out.mono ?_); rintro _ w2 ⟨rfl,rfl⟩)))
  go_ret
  exact ⟨by rw [HR2.out]; rfl,rfl⟩
 by_cases c8:c = 93
 ·have HR2:Hid (R = 1):=hid (by rw [HR.out,c8]; rfl)
  rw [decide_eq_true c8] at m8
  rw [decide_eq_false (by rw [c8]; decide)] at m0
  rw [decide_eq_false (by rw [c8]; decide)] at m1
  rw [decide_eq_false (by rw [c8]; decide)] at m2
  rw [decide_eq_false (by rw [c8]; decide)] at m3
  rw [decide_eq_false (by rw [c8]; decide)] at m4
  rw [decide_eq_false (by rw [c8]; decide)] at m5
  rw [decide_eq_false (by rw [c8]; decide)] at m6
  rw [decide_eq_false (by rw [c8]; decide)] at m7
  have M8:=m8
  go_enter Tryz.func97,Tryz.ntmps97
  go_wp2_with (first | (go_at_call 121; ((with_reducible refine H1.out.mono ?_); rintro _ w2 ⟨rfl,rfl⟩)) | (go_at_call 121; ((with_reducible refine H2.out.mono ?_); rintro _ w2 ⟨rfl,rfl⟩)) | (go_at_call 121; ((with_reducible refine H3.out.mono ?_); rintro _ w2 ⟨rfl,rfl⟩)) | (go_at_call 121; ((with_reducible refine H4.out.mono ?_); rintro _ w2 ⟨rfl,rfl⟩)))
  go_ret
  exact ⟨by rw [HR2.out]; rfl,rfl⟩
 have HR2:Hid (R = 0):=hid (by rw [HR.out]; simp [c0,c1,c2,c3,c4,c5,c6,c7,c8])
 rw [decide_eq_false c0] at m0
 rw [decide_eq_false c1] at m1
 rw [decide_eq_false c2] at m2
 rw [decide_eq_false c3] at m3
 rw [decide_eq_false c4] at m4
 rw [decide_eq_false c5] at m5
 rw [decide_eq_false c6] at m6
 rw [decide_eq_false c7] at m7
 rw [decide_eq_false c8] at m8
 clear c0 c1 c2 c3 c4 c5 c6 c7 c8
 go_enter Tryz.func97,Tryz.ntmps97
 go_wp2_with (first | (go_at_call 121; ((with_reducible refine H1.out.mono ?_); rintro _ w2 ⟨rfl,rfl⟩)) | (go_at_call 121; ((with_reducible refine H2.out.mono ?_); rintro _ w2 ⟨rfl,rfl⟩)) | (go_at_call 121; ((with_reducible refine H3.out.mono ?_); rintro _ w2 ⟨rfl,rfl⟩)) | (go_at_call 121; ((with_reducible refine H4.out.mono ?_); rintro _ w2 ⟨rfl,rfl⟩)))
 go_ret
 exact ⟨by rw [HR2.out]; rfl,rfl⟩
def tkK (r:KT):Int:=if r.e = 0 then r.k else 0
def tkN (r:KT):Nat:=if r.e = 0 then r.t.size else 0
def RetTk (w:World) (r:KT) (e:Ending) (w':World):Prop:=e = .returned (.tuple #[.int .u8 (tkK r),.int .i64 (tkN r:Int),.int .i64 r.e]) /\ w = w'
theorem bt_mk (c:UInt8) (l:List UInt8):bt (mkS (c :: l)) 0 = c.toNat:=by unfold bt; rw [bys_mk]; rfl
theorem meta_bt {s:ByteArray} (h:metaB s = true):bt s 0 = 63:=by
 unfold metaB fmB tmB at h
 simp only [Bool.or_eq_true,Bool.and_eq_true,pref63,decide_eq_true_eq] at h
 rcases h with h | h
 ·exact h.1.2.2
 ·exact h.1.2.2
theorem word_bt {s:ByteArray} (h:wordB s = true):letterB (bt s 0) = true:=by
 unfold wordB at h
 have h:=of_decide_eq_true h
 unfold bt
 simp only [wordsD,List.mem_cons,List.mem_nil_iff,or_false] at h
 rcases h with h | h | h | h | h | h <;> (rw [h]; decide)
theorem check_bt {p q:Nat -> Bool} {s:ByteArray} (h:checkB p q s = true):p (bt s 0) = true:=by
 unfold checkB at h
 simp only [Bool.and_eq_true] at h
 exact h.1.2
def wdR (qw qm qn:Bool) (n:Nat):Int × Nat × Int:=if qw = true then (3,n,0) else if qm = true then (2,n,0) else if qn = true then (1,n,0) else (0,0,41)
theorem read_word {c:UInt8} {l:List UInt8} {t:ByteArray} (ht:t = mkS (c :: l.takeWhile alL)) (h:letterB c.toNat = true ∨ c = 63):(tkK (readL c l),tkN (readL c l),(readL c l).e) = wdR (wordB t) (metaB t) (checkB varB digitB t || checkB funB alnumB t || checkB capB alnumB t) t.size:=by
 have hb:bt t 0 = c.toNat:=by rw [ht,bt_mk]
 unfold readL
 by_cases hl:letterB c.toNat = true
 ·rw [if_pos hl,<- ht]
  have hm:metaB t = false:=by
   cases e:metaB t with
   | false => rfl
   | true =>
    have:=meta_bt e
    rw [hb] at this
    rw [this] at hl
    exact absurd hl (by decide)
  unfold runR nameB wdR
  rw [hm]
  cases wordB t
  ·cases (checkB varB digitB t || checkB funB alnumB t || checkB capB alnumB t) <;> simp [tkK,tkN]
  ·simp [tkK,tkN]
 ·have hc:c = 63:=by rcases h with h | h; exact absurd h hl; exact h
  have hbt:bt t 0 = 63:=by rw [hb,hc]; rfl
  have hmk:markB c.toNat = true:=by rw [hc]; decide
  rw [if_neg hl,if_pos hmk,<- ht]
  have hw:wordB t = false:=by
   cases e:wordB t with
   | false => rfl
   | true => have:=word_bt e; rw [hbt] at this; exact absurd this (by decide)
  have h1:checkB varB digitB t = false:=by
   cases e:checkB varB digitB t with
   | false => rfl
   | true => have:=check_bt e; rw [hbt] at this; exact absurd this (by decide)
  have h2:checkB funB alnumB t = false:=by
   cases e:checkB funB alnumB t with
   | false => rfl
   | true => have:=check_bt e; rw [hbt] at this; exact absurd this (by decide)
  have h3:checkB capB alnumB t = false:=by
   cases e:checkB capB alnumB t with
   | false => rfl
   | true => have:=check_bt e; rw [hbt] at this; exact absurd this (by decide)
  unfold markR wdR
  rw [hw,h1,h2,h3]
  cases metaB t <;> simp [tkK,tkN]
theorem read_sign {c:UInt8} {l:List UInt8} (hl:letterB c.toNat = false) (hm:c ≠ 63):tkK (readL c l) = (if signN c l = 0 then 0 else 4) /\ tkN (readL c l) = signN c l /\ (readL c l).e = (if signN c l = 0 then 40 else 0):=by
 have hmk:¬ markB c.toNat = true:=by
  unfold markB
  simp only [decide_eq_true_eq]
  intro e
  exact hm (UInt8.toNat_inj.1 (by rw [e]; rfl))
 unfold readL
 rw [hl,if_neg (by decide),if_neg hmk,signR_L]
 unfold signN
 cases h:signL (c :: l) with
 | none => exact ⟨rfl,rfl,rfl⟩
 | some g =>
  have hg:=(signsD_plain g (signL_mem h).1).2
  have:g.length ≠ 0:=fun e => hg (List.length_eq_zero_iff.1 e)
  simp only [this,if_false]
  refine ⟨rfl,mk_size g,by first | rfl | trivial⟩
theorem takeW:∀ (l:List UInt8) (k:Nat),(∀ j b,j < k -> l[j]? = some b -> alL b = true) -> (k = l.length ∨ ∃ b,l[k]? = some b /\ alL b = false) -> l.takeWhile alL = l.take k
 | [],k,_,_ => by simp
 | c :: l,0,_,h => by
  rcases h with h | ⟨b,h1,h2⟩
  ·simp at h
  ·simp at h1; subst h1; simp [h2]
 | c :: l,k + 1,ha,h => by
  have hc:alL c = true:=ha 0 c (by omega) rfl
  rw [List.takeWhile_cons,if_pos hc,List.take_succ_cons,takeW l k (fun j b hj hb => ha (j + 1) b (by omega) hb) (by
   rcases h with h | ⟨b,h1,h2⟩
   ·left; simpa using h
   ·right; exact ⟨b,h1,h2⟩)]
theorem ext_take {x:ByteArray} {c:UInt8} {l:List UInt8} {k:Nat} (hx:bys x = c :: l) (hk1:1 <= k) (hk:k <= x.size) (ha:∀ j,1 <= j -> j < k -> alnumB (bt x j) = true) (he:k = x.size ∨ alnumB (bt x k) = false):x.extract 0 k = mkS (c :: l.takeWhile alL):=by
 have hlen:l.length + 1 = x.size:=by have:(bys x).length = x.size:=rfl; rw [hx] at this; simpa using this
 have hbt:∀ j b,l[j]? = some b -> bt x (j + 1) = b.toNat:=fun j b h => by unfold bt; rw [hx]; simp [h]
 have h1:l.takeWhile alL = l.take (k - 1):=takeW l (k - 1) (fun j b hj hb => by
  have:=ha (j + 1) (by omega) (by omega)
  rw [hbt j b hb] at this
  exact this) (by
  rcases he with he | he
  ·left; omega
  ·by_cases hkl:k - 1 < l.length
   ·right
    refine ⟨l[k - 1],List.getElem?_eq_getElem hkl,?_⟩
    have:=hbt (k - 1) _ (List.getElem?_eq_getElem hkl)
    rw [show k - 1 + 1 = k by omega] at this
    rw [this] at he
    exact he
   ·left; omega)
 rw [h1]
 apply bys_inj.1
 rw [bys_mk]
 have e:bys (x.extract 0 k) = (bys x).take k:=by
  unfold bys
  rw [ByteArray.data_extract]
  simp
 rw [e,hx,show k = (k - 1) + 1 by omega,List.take_succ_cons]
 rfl
set_option maxRecDepth 100000 in
set_option maxHeartbeats 8000000 in
theorem token_call (w:World) (x:ByteArray) (c:UInt8) (l:List UInt8) (hx:bys x = c :: l) (hs:x.size <= 16384):Calls Tryz.prog 64 #[.string x] w (RetTk w (readL c l)):=by
 obtain ⟨hz,hc⟩:=at_zero hx
 have hz0:(0:Int) < (x.size:Int):=by omega
 have hsz:(x.size:Int) <= 16384:=by omega
 have hml:x.size <= maxLen:=by have:maxLen = 9223372036854775807:=rfl; omega
 unfold RetTk
 have hlt:=rletter w ((x[0]'hz).toNat) (by have:=UInt8.toNat_lt (x[0]'hz); omega)
 have hlc:letterB ((x[0]'hz).toNat) = letterB c.toNat:=by rw [hc]
 have h63:(((x[0]'hz).toNat:Int) == 63) = decide (c = 63):=by
  rw [hc,Bool.eq_iff_iff]
  simp only [beq_iff_eq,decide_eq_true_eq]
  constructor
  ·intro e; exact UInt8.toNat_inj.1 (by
   have:c.toNat = 63:=by omega
   rw [this]; rfl)
  ·intro e; rw [e]; rfl
 obtain ⟨K3,hK3⟩:∃ q,q = tkK (readL c l):=⟨_,rfl⟩
 obtain ⟨N3,hN3⟩:∃ q,q = tkN (readL c l):=⟨_,rfl⟩
 obtain ⟨E3,hE3⟩:∃ q,q = (readL c l).e:=⟨_,rfl⟩
 rw [<- hK3,<- hN3,<- hE3]
 have HE1:=hid hK3
 have HE2:=hid hN3
 have HE3:=hid hE3
 rw [hlc] at hlt
 obtain ⟨ql,hql⟩:∃ q,q = letterB c.toNat:=⟨_,rfl⟩
 rw [<- hql] at hlt
 have HLT:=hid hlt
 have HX:=hid hx
 have HQL:=hid hql
 by_cases hcase:ql = false /\ c ≠ 63
 ·obtain ⟨hlf,h6⟩:=hcase
  have hrs:=rsign_call w x c l hx hml
  obtain ⟨f1,f2,f3⟩:=read_sign (l:=l) (by rw [<- hql,hlf]) h6
  rw [decide_eq_false h6] at h63
  have h64:(((x[0]'hz).toNat:Int) != 63) = true:=by simp [bne,h63]
  subst hlf
  obtain ⟨n,hn⟩:∃ n,n = signN c l:=⟨_,rfl⟩
  rw [<- hn] at hrs f1 f2 f3
  rw [<- hK3] at f1
  rw [<- hN3] at f2
  rw [<- hE3] at f3
  unfold RetNp at hrs
  have HS:=hid hrs
  have F1:=hid f1
  have F2:=hid f2
  have F3:=hid f3
  clear hrs f1 f2 f3 hn hK3 hN3 hE3 hlt hlc hql hc hx hs hml h6
  by_cases h0:n = 0
  ·subst h0
   have G1:Hid (K3 = 0):=hid (by rw [F1.out]; rfl)
   have G2:Hid (N3 = 0):=hid F2.out
   have G3:Hid (E3 = 40):=hid (by rw [F3.out]; rfl)
   go_enter Tryz.func64,Tryz.ntmps64
   go_wp2_with (first | (go_at_call 96; ((with_reducible refine HLT.out.mono ?_); rintro _ w9 ⟨rfl,rfl⟩)) | (go_at_call 97; ((with_reducible refine HS.out.mono ?_); rintro _ w9 ⟨rfl,rfl⟩)))
   refine bodyPost_ret (v:=.tuple #[.int .u8 K3,.int .i64 (N3:Int),.int .i64 E3]) (by rw [G1.out,G2.out,G3.out]; simp [results,Tryz.results64,go_sem]) rfl ?_
   exact ⟨rfl,rfl⟩
  ·have hn0:((n:Int) == 0) = false:=by simp; omega
   have G1:Hid (K3 = 4):=hid (by rw [F1.out,if_neg h0])
   have G2:Hid (N3 = n):=hid F2.out
   have G3:Hid (E3 = 0):=hid (by rw [F3.out,if_neg h0])
   clear h0
   go_enter Tryz.func64,Tryz.ntmps64
   go_wp2_with (first | (go_at_call 96; ((with_reducible refine HLT.out.mono ?_); rintro _ w9 ⟨rfl,rfl⟩)) | (go_at_call 97; ((with_reducible refine HS.out.mono ?_); rintro _ w9 ⟨rfl,rfl⟩)))
   refine bodyPost_ret (v:=.tuple #[.int .u8 K3,.int .i64 (N3:Int),.int .i64 E3]) (by rw [G1.out,G2.out,G3.out]; simp [results,Tryz.results64,go_sem]) rfl ?_
   exact ⟨rfl,rfl⟩
 ·have HLM:Hid (letterB c.toNat = true ∨ c = 63):=hid (by
   rw [<- hql]
   cases ql with
   | true => exact .inl rfl
   | false => exact .inr (Classical.byContradiction fun h => hcase ⟨rfl,h⟩))
  have hor:(ql = true) ∨ (ql = false /\ c = 63):=by
   rcases HLM.out with h | h
   ·exact .inl (by rw [hql]; exact h)
   ·cases ql with
    | true => exact .inl rfl
    | false => exact .inr ⟨rfl,h⟩
  have hbt:∀ k (hk:k < x.size),((x[k]'hk).toNat:Int) = (bt x k:Int):=fun k hk => by rw [bt_eq]
  have HOR:=hid (show ql = true ∨ (ql = false /\ (((x[0]'hz).toNat:Int) == 63) = true) from hor.imp id fun h => ⟨h.1,by rw [h63,h.2]; rfl⟩)
  clear hcase hor hK3 hN3 hE3 hlt hlc hql hc hx hs hml h63 hbt
  have HGO:Hid (∀ (P:Prop),P -> P):=hid fun P h => h
  clear HGO
  have hmain:∀ b63:Bool,(ql = true ∨ (ql = false /\ b63 = true)) -> (((x[0]'hz).toNat:Int) == 63) = b63 -> Calls Tryz.prog 64 #[.string x] w (fun e w' => e = .returned (.tuple #[.int .u8 K3,.int .i64 (N3:Int),.int .i64 E3]) /\ w = w'):=by
   intro b63 hb hb63
   have hb64:(((x[0]'hz).toNat:Int) != 63) = !b63:=by simp [bne,hb63]
   have hkk:(ql = true /\ True) ∨ (ql = false /\ b63 = true):=hb.imp (fun h => ⟨h,trivial⟩) id
   clear hb HOR
   rcases hkk with ⟨rfl,_⟩ | ⟨rfl,rfl⟩
   all_goals (
    try simp only [Bool.not_true] at hb64
    go_enter Tryz.func64,Tryz.ntmps64
    go_wp2_with (go_at_call 96; ((with_reducible refine HLT.out.mono ?_); rintro _ w9 ⟨rfl,rfl⟩))
    go_loopw [5] (fun i wr => ∃ k:Nat,1 <= k /\ k <= x.size /\ i = .int .i64 k /\ w = wr /\ ∀ j,1 <= j -> j < k -> alnumB (bt x j) = true) (fun i _ => x.size - (intOf i).toNat)
    case atStart => exact ⟨1,by omega,by omega,rfl,rfl,fun j h1 h2 => by omega⟩
    case round =>
     obtain ⟨k,hk1,hk,rfl,rfl,hall⟩:=hrel
     have HALL:=hid hall
     clear hall hb63 hb64
     have k0:(0:Int) <= (k:Int):=by omega
     have ki:(k:Int) <= (x.size:Int):=by omega
     by_cases hks:(k:Int) < (x.size:Int)
     ·have hks2:k < x.size:=by omega
      have hl1:=rletter w ((x[k]'hks2).toNat) (by have:=UInt8.toNat_lt (x[k]'hks2); omega)
      have hd1:=rdigit w ((x[k]'hks2).toNat) (by have:=UInt8.toNat_lt (x[k]'hks2); omega)
      obtain ⟨b1,e1⟩:∃ q,q = letterB ((x[k]'hks2).toNat):=⟨_,rfl⟩
      obtain ⟨b2,e2⟩:∃ q,q = digitB ((x[k]'hks2).toNat):=⟨_,rfl⟩
      have hal:alnumB (bt x k) = (b1 || b2):=by rw [e1,e2,<- bt_eq hks2]; rfl
      rw [<- e1] at hl1
      rw [<- e2] at hd1
      have HL1:=hid hl1
      have HD1:=hid hd1
      have HAL:=hid hal
      clear hl1 hd1 hal e1 e2
      rcases b1 with _ | _
      ·rcases b2 with _ | _
       ·go_wp2_with (first | (go_at_call 96; ((with_reducible refine HL1.out.mono ?_); rintro _ w9 ⟨rfl,rfl⟩)) | (go_at_call 98; ((with_reducible refine HD1.out.mono ?_); rintro _ w9 ⟨rfl,rfl⟩)))
        have hext:=ext_take HX.out hk1 (by omega) HALL.out (.inr HAL.out)
        have hrd:=read_word (t:=x.extract 0 k) hext HLM.out
        obtain ⟨t,ht⟩:∃ t,x.extract 0 k = t:=⟨_,rfl⟩
        have htz:t.size = k:=by rw [<- ht,ByteArray.size_extract]; omega
        rw [ht] at hrd
        have hts:t.size <= maxLen:=by have:maxLen = 9223372036854775807:=rfl; omega
        have hw:=rword w t
        have hm:=metar_call w t hts
        have hv:=variable_call w t hts
        have hf:=function_callr w t hts
        have hp:=predicate_call w t hts
        obtain ⟨qw,e1⟩:∃ q,q = wordB t:=⟨_,rfl⟩
        obtain ⟨qm,e2⟩:∃ q,q = metaB t:=⟨_,rfl⟩
        obtain ⟨qv,e3⟩:∃ q,q = checkB varB digitB t:=⟨_,rfl⟩
        obtain ⟨qf,e4⟩:∃ q,q = checkB funB alnumB t:=⟨_,rfl⟩
        obtain ⟨qp,e5⟩:∃ q,q = checkB capB alnumB t:=⟨_,rfl⟩
        rw [<- e1,<- e2,<- e3,<- e4,<- e5,htz,<- HE1.out,<- HE2.out,<- HE3.out] at hrd
        rw [<- e1] at hw
        rw [<- e2] at hm
        rw [<- e3] at hv
        rw [<- e4] at hf
        rw [<- e5] at hp
        have HRD:=hid hrd
        have HW:=hid hw
        have HM:=hid hm
        have HV:=hid hv
        have HF:=hid hf
        have HP:=hid hp
        clear hrd hw hm hv hf hp e1 e2 e3 e4 e5 hext hts htz
        rw [ht]
        with_reducible refine HW.out.mono ?_
        rintro _ w9 ⟨rfl,rfl⟩
        rcases qw with _ | _
        case true =>
         obtain ⟨f1,f2,f3⟩:K3 = _ /\ N3 = _ /\ E3 = _:=by simpa only [wdR,Prod.mk.injEq,if_true,if_false,Bool.false_eq_true,Bool.or_false,Bool.false_or,Bool.or_true,Bool.true_or] using HRD.out
         have F1:=hid f1
         have F2:=hid f2
         have F3:=hid f3
         clear f1 f2 f3
         go_wp2_with (first | (go_at_call 99; ((with_reducible refine HW.out.mono ?_); rintro _ w9 ⟨rfl,rfl⟩)) | (go_at_call 100; ((with_reducible refine HM.out.mono ?_); rintro _ w9 ⟨rfl,rfl⟩)) | (go_at_call 66; ((with_reducible refine HV.out.mono ?_); rintro _ w9 ⟨rfl,rfl⟩)) | (go_at_call 67; ((with_reducible refine HF.out.mono ?_); rintro _ w9 ⟨rfl,rfl⟩)) | (go_at_call 101; ((with_reducible refine HP.out.mono ?_); rintro _ w9 ⟨rfl,rfl⟩)))
         refine bodyPost_ret (v:=.tuple #[.int .u8 K3,.int .i64 (N3:Int),.int .i64 E3]) (by rw [F1.out,F2.out,F3.out]; simp [results,Tryz.results64,go_sem]) rfl ?_
         exact ⟨rfl,rfl⟩
        rcases qm with _ | _
        case true =>
         obtain ⟨f1,f2,f3⟩:K3 = _ /\ N3 = _ /\ E3 = _:=by simpa only [wdR,Prod.mk.injEq,if_true,if_false,Bool.false_eq_true,Bool.or_false,Bool.false_or,Bool.or_true,Bool.true_or] using HRD.out
         have F1:=hid f1
         have F2:=hid f2
         have F3:=hid f3
         clear f1 f2 f3
         go_wp2_with (first | (go_at_call 99; ((with_reducible refine HW.out.mono ?_); rintro _ w9 ⟨rfl,rfl⟩)) | (go_at_call 100; ((with_reducible refine HM.out.mono ?_); rintro _ w9 ⟨rfl,rfl⟩)) | (go_at_call 66; ((with_reducible refine HV.out.mono ?_); rintro _ w9 ⟨rfl,rfl⟩)) | (go_at_call 67; ((with_reducible refine HF.out.mono ?_); rintro _ w9 ⟨rfl,rfl⟩)) | (go_at_call 101; ((with_reducible refine HP.out.mono ?_); rintro _ w9 ⟨rfl,rfl⟩)))
         refine bodyPost_ret (v:=.tuple #[.int .u8 K3,.int .i64 (N3:Int),.int .i64 E3]) (by rw [F1.out,F2.out,F3.out]; simp [results,Tryz.results64,go_sem]) rfl ?_
         exact ⟨rfl,rfl⟩
        rcases qv with _ | _
        case true =>
         obtain ⟨f1,f2,f3⟩:K3 = _ /\ N3 = _ /\ E3 = _:=by simpa only [wdR,Prod.mk.injEq,if_true,if_false,Bool.false_eq_true,Bool.or_false,Bool.false_or,Bool.or_true,Bool.true_or] using HRD.out
         have F1:=hid f1
         have F2:=hid f2
         have F3:=hid f3
         clear f1 f2 f3
         go_wp2_with (first | (go_at_call 99; ((with_reducible refine HW.out.mono ?_); rintro _ w9 ⟨rfl,rfl⟩)) | (go_at_call 100; ((with_reducible refine HM.out.mono ?_); rintro _ w9 ⟨rfl,rfl⟩)) | (go_at_call 66; ((with_reducible refine HV.out.mono ?_); rintro _ w9 ⟨rfl,rfl⟩)) | (go_at_call 67; ((with_reducible refine HF.out.mono ?_); rintro _ w9 ⟨rfl,rfl⟩)) | (go_at_call 101; ((with_reducible refine HP.out.mono ?_); rintro _ w9 ⟨rfl,rfl⟩)))
         refine bodyPost_ret (v:=.tuple #[.int .u8 K3,.int .i64 (N3:Int),.int .i64 E3]) (by rw [F1.out,F2.out,F3.out]; simp [results,Tryz.results64,go_sem]) rfl ?_
         exact ⟨rfl,rfl⟩
        rcases qf with _ | _
        case true =>
         obtain ⟨f1,f2,f3⟩:K3 = _ /\ N3 = _ /\ E3 = _:=by simpa only [wdR,Prod.mk.injEq,if_true,if_false,Bool.false_eq_true,Bool.or_false,Bool.false_or,Bool.or_true,Bool.true_or] using HRD.out
         have F1:=hid f1
         have F2:=hid f2
         have F3:=hid f3
         clear f1 f2 f3
         go_wp2_with (first | (go_at_call 99; ((with_reducible refine HW.out.mono ?_); rintro _ w9 ⟨rfl,rfl⟩)) | (go_at_call 100; ((with_reducible refine HM.out.mono ?_); rintro _ w9 ⟨rfl,rfl⟩)) | (go_at_call 66; ((with_reducible refine HV.out.mono ?_); rintro _ w9 ⟨rfl,rfl⟩)) | (go_at_call 67; ((with_reducible refine HF.out.mono ?_); rintro _ w9 ⟨rfl,rfl⟩)) | (go_at_call 101; ((with_reducible refine HP.out.mono ?_); rintro _ w9 ⟨rfl,rfl⟩)))
         refine bodyPost_ret (v:=.tuple #[.int .u8 K3,.int .i64 (N3:Int),.int .i64 E3]) (by rw [F1.out,F2.out,F3.out]; simp [results,Tryz.results64,go_sem]) rfl ?_
         exact ⟨rfl,rfl⟩
        rcases qp with _ | _
        case true =>
         obtain ⟨f1,f2,f3⟩:K3 = _ /\ N3 = _ /\ E3 = _:=by simpa only [wdR,Prod.mk.injEq,if_true,if_false,Bool.false_eq_true,Bool.or_false,Bool.false_or,Bool.or_true,Bool.true_or] using HRD.out
         have F1:=hid f1
         have F2:=hid f2
         have F3:=hid f3
         clear f1 f2 f3
         go_wp2_with (first | (go_at_call 99; ((with_reducible refine HW.out.mono ?_); rintro _ w9 ⟨rfl,rfl⟩)) | (go_at_call 100; ((with_reducible refine HM.out.mono ?_); rintro _ w9 ⟨rfl,rfl⟩)) | (go_at_call 66; ((with_reducible refine HV.out.mono ?_); rintro _ w9 ⟨rfl,rfl⟩)) | (go_at_call 67; ((with_reducible refine HF.out.mono ?_); rintro _ w9 ⟨rfl,rfl⟩)) | (go_at_call 101; ((with_reducible refine HP.out.mono ?_); rintro _ w9 ⟨rfl,rfl⟩)))
         refine bodyPost_ret (v:=.tuple #[.int .u8 K3,.int .i64 (N3:Int),.int .i64 E3]) (by rw [F1.out,F2.out,F3.out]; simp [results,Tryz.results64,go_sem]) rfl ?_
         exact ⟨rfl,rfl⟩
        case false =>
         obtain ⟨f1,f2,f3⟩:K3 = _ /\ N3 = _ /\ E3 = _:=by simpa only [wdR,Prod.mk.injEq,if_true,if_false,Bool.false_eq_true,Bool.or_false,Bool.false_or,Bool.or_true,Bool.true_or] using HRD.out
         have F1:=hid f1
         have F2:=hid f2
         have F3:=hid f3
         clear f1 f2 f3
         go_wp2_with (first | (go_at_call 99; ((with_reducible refine HW.out.mono ?_); rintro _ w9 ⟨rfl,rfl⟩)) | (go_at_call 100; ((with_reducible refine HM.out.mono ?_); rintro _ w9 ⟨rfl,rfl⟩)) | (go_at_call 66; ((with_reducible refine HV.out.mono ?_); rintro _ w9 ⟨rfl,rfl⟩)) | (go_at_call 67; ((with_reducible refine HF.out.mono ?_); rintro _ w9 ⟨rfl,rfl⟩)) | (go_at_call 101; ((with_reducible refine HP.out.mono ?_); rintro _ w9 ⟨rfl,rfl⟩)))
         refine bodyPost_ret (v:=.tuple #[.int .u8 K3,.int .i64 (N3:Int),.int .i64 E3]) (by rw [F1.out,F2.out,F3.out]; simp [results,Tryz.results64,go_sem]) rfl ?_
         exact ⟨rfl,rfl⟩
       ·go_wp2_with (first | (go_at_call 96; ((with_reducible refine HL1.out.mono ?_); rintro _ w9 ⟨rfl,rfl⟩)) | (go_at_call 98; ((with_reducible refine HD1.out.mono ?_); rintro _ w9 ⟨rfl,rfl⟩)))
        go_roundw
        case rel => exact ⟨k + 1,by omega,by omega,by go_num,by first | rfl | trivial,fun j h1 h2 => by
         by_cases e:j = k
         ·rw [e,HAL.out]; rfl
         ·exact HALL.out j h1 (by omega)⟩
        case measure => simp [intOf]; omega
      ·go_wp2_with (first | (go_at_call 96; ((with_reducible refine HL1.out.mono ?_); rintro _ w9 ⟨rfl,rfl⟩)) | (go_at_call 98; ((with_reducible refine HD1.out.mono ?_); rintro _ w9 ⟨rfl,rfl⟩)))
       go_roundw
       case rel => exact ⟨k + 1,by omega,by omega,by go_num,by first | rfl | trivial,fun j h1 h2 => by
        by_cases e:j = k
        ·rw [e,HAL.out]; rfl
        ·exact HALL.out j h1 (by omega)⟩
       case measure => simp [intOf]; omega
     ·have hke:k = x.size:=by omega
      have HKE:=hid hke
      clear hke
      go_wp2_with (fail)
      go_at_call 99
      have hext:=ext_take HX.out hk1 (by omega) HALL.out (.inl HKE.out)
      have hrd:=read_word (t:=x.extract 0 k) hext HLM.out
      obtain ⟨t,ht⟩:∃ t,x.extract 0 k = t:=⟨_,rfl⟩
      have htz:t.size = k:=by rw [<- ht,ByteArray.size_extract]; omega
      rw [ht] at hrd
      have hts:t.size <= maxLen:=by have:maxLen = 9223372036854775807:=rfl; omega
      have hw:=rword w t
      have hm:=metar_call w t hts
      have hv:=variable_call w t hts
      have hf:=function_callr w t hts
      have hp:=predicate_call w t hts
      obtain ⟨qw,e1⟩:∃ q,q = wordB t:=⟨_,rfl⟩
      obtain ⟨qm,e2⟩:∃ q,q = metaB t:=⟨_,rfl⟩
      obtain ⟨qv,e3⟩:∃ q,q = checkB varB digitB t:=⟨_,rfl⟩
      obtain ⟨qf,e4⟩:∃ q,q = checkB funB alnumB t:=⟨_,rfl⟩
      obtain ⟨qp,e5⟩:∃ q,q = checkB capB alnumB t:=⟨_,rfl⟩
      rw [<- e1,<- e2,<- e3,<- e4,<- e5,htz,<- HE1.out,<- HE2.out,<- HE3.out] at hrd
      rw [<- e1] at hw
      rw [<- e2] at hm
      rw [<- e3] at hv
      rw [<- e4] at hf
      rw [<- e5] at hp
      have HRD:=hid hrd
      have HW:=hid hw
      have HM:=hid hm
      have HV:=hid hv
      have HF:=hid hf
      have HP:=hid hp
      clear hrd hw hm hv hf hp e1 e2 e3 e4 e5 hext hts htz
      rw [ht]
      with_reducible refine HW.out.mono ?_
      rintro _ w9 ⟨rfl,rfl⟩
      rcases qw with _ | _
      case true =>
       obtain ⟨f1,f2,f3⟩:K3 = _ /\ N3 = _ /\ E3 = _:=by simpa only [wdR,Prod.mk.injEq,if_true,if_false,Bool.false_eq_true,Bool.or_false,Bool.false_or,Bool.or_true,Bool.true_or] using HRD.out
       have F1:=hid f1
       have F2:=hid f2
       have F3:=hid f3
       clear f1 f2 f3
       go_wp2_with (first | (go_at_call 99; ((with_reducible refine HW.out.mono ?_); rintro _ w9 ⟨rfl,rfl⟩)) | (go_at_call 100; ((with_reducible refine HM.out.mono ?_); rintro _ w9 ⟨rfl,rfl⟩)) | (go_at_call 66; ((with_reducible refine HV.out.mono ?_); rintro _ w9 ⟨rfl,rfl⟩)) | (go_at_call 67; ((with_reducible refine HF.out.mono ?_); rintro _ w9 ⟨rfl,rfl⟩)) | (go_at_call 101; ((with_reducible refine HP.out.mono ?_); rintro _ w9 ⟨rfl,rfl⟩)))
       refine bodyPost_ret (v:=.tuple #[.int .u8 K3,.int .i64 (N3:Int),.int .i64 E3]) (by rw [F1.out,F2.out,F3.out]; simp [results,Tryz.results64,go_sem]) rfl ?_
       exact ⟨rfl,rfl⟩
      rcases qm with _ | _
      case true =>
       obtain ⟨f1,f2,f3⟩:K3 = _ /\ N3 = _ /\ E3 = _:=by simpa only [wdR,Prod.mk.injEq,if_true,if_false,Bool.false_eq_true,Bool.or_false,Bool.false_or,Bool.or_true,Bool.true_or] using HRD.out
       have F1:=hid f1
       have F2:=hid f2
       have F3:=hid f3
       clear f1 f2 f3
       go_wp2_with (first | (go_at_call 99; ((with_reducible refine HW.out.mono ?_); rintro _ w9 ⟨rfl,rfl⟩)) | (go_at_call 100; ((with_reducible refine HM.out.mono ?_); rintro _ w9 ⟨rfl,rfl⟩)) | (go_at_call 66; ((with_reducible refine HV.out.mono ?_); rintro _ w9 ⟨rfl,rfl⟩)) | (go_at_call 67; ((with_reducible refine HF.out.mono ?_); rintro _ w9 ⟨rfl,rfl⟩)) | (go_at_call 101; ((with_reducible refine HP.out.mono ?_); rintro _ w9 ⟨rfl,rfl⟩)))
       refine bodyPost_ret (v:=.tuple #[.int .u8 K3,.int .i64 (N3:Int),.int .i64 E3]) (by rw [F1.out,F2.out,F3.out]; simp [results,Tryz.results64,go_sem]) rfl ?_
       exact ⟨rfl,rfl⟩
      rcases qv with _ | _
      case true =>
       obtain ⟨f1,f2,f3⟩:K3 = _ /\ N3 = _ /\ E3 = _:=by simpa only [wdR,Prod.mk.injEq,if_true,if_false,Bool.false_eq_true,Bool.or_false,Bool.false_or,Bool.or_true,Bool.true_or] using HRD.out
       have F1:=hid f1
       have F2:=hid f2
       have F3:=hid f3
       clear f1 f2 f3
       go_wp2_with (first | (go_at_call 99; ((with_reducible refine HW.out.mono ?_); rintro _ w9 ⟨rfl,rfl⟩)) | (go_at_call 100; ((with_reducible refine HM.out.mono ?_); rintro _ w9 ⟨rfl,rfl⟩)) | (go_at_call 66; ((with_reducible refine HV.out.mono ?_); rintro _ w9 ⟨rfl,rfl⟩)) | (go_at_call 67; ((with_reducible refine HF.out.mono ?_); rintro _ w9 ⟨rfl,rfl⟩)) | (go_at_call 101; ((with_reducible refine HP.out.mono ?_); rintro _ w9 ⟨rfl,rfl⟩)))
       refine bodyPost_ret (v:=.tuple #[.int .u8 K3,.int .i64 (N3:Int),.int .i64 E3]) (by rw [F1.out,F2.out,F3.out]; simp [results,Tryz.results64,go_sem]) rfl ?_
       exact ⟨rfl,rfl⟩
      rcases qf with _ | _
      case true =>
       obtain ⟨f1,f2,f3⟩:K3 = _ /\ N3 = _ /\ E3 = _:=by simpa only [wdR,Prod.mk.injEq,if_true,if_false,Bool.false_eq_true,Bool.or_false,Bool.false_or,Bool.or_true,Bool.true_or] using HRD.out
       have F1:=hid f1
       have F2:=hid f2
       have F3:=hid f3
       clear f1 f2 f3
       go_wp2_with (first | (go_at_call 99; ((with_reducible refine HW.out.mono ?_); rintro _ w9 ⟨rfl,rfl⟩)) | (go_at_call 100; ((with_reducible refine HM.out.mono ?_); rintro _ w9 ⟨rfl,rfl⟩)) | (go_at_call 66; ((with_reducible refine HV.out.mono ?_); rintro _ w9 ⟨rfl,rfl⟩)) | (go_at_call 67; ((with_reducible refine HF.out.mono ?_); rintro _ w9 ⟨rfl,rfl⟩)) | (go_at_call 101; ((with_reducible refine HP.out.mono ?_); rintro _ w9 ⟨rfl,rfl⟩)))
       refine bodyPost_ret (v:=.tuple #[.int .u8 K3,.int .i64 (N3:Int),.int .i64 E3]) (by rw [F1.out,F2.out,F3.out]; simp [results,Tryz.results64,go_sem]) rfl ?_
       exact ⟨rfl,rfl⟩
      rcases qp with _ | _
      case true =>
       obtain ⟨f1,f2,f3⟩:K3 = _ /\ N3 = _ /\ E3 = _:=by simpa only [wdR,Prod.mk.injEq,if_true,if_false,Bool.false_eq_true,Bool.or_false,Bool.false_or,Bool.or_true,Bool.true_or] using HRD.out
       have F1:=hid f1
       have F2:=hid f2
       have F3:=hid f3
       clear f1 f2 f3
       go_wp2_with (first | (go_at_call 99; ((with_reducible refine HW.out.mono ?_); rintro _ w9 ⟨rfl,rfl⟩)) | (go_at_call 100; ((with_reducible refine HM.out.mono ?_); rintro _ w9 ⟨rfl,rfl⟩)) | (go_at_call 66; ((with_reducible refine HV.out.mono ?_); rintro _ w9 ⟨rfl,rfl⟩)) | (go_at_call 67; ((with_reducible refine HF.out.mono ?_); rintro _ w9 ⟨rfl,rfl⟩)) | (go_at_call 101; ((with_reducible refine HP.out.mono ?_); rintro _ w9 ⟨rfl,rfl⟩)))
       refine bodyPost_ret (v:=.tuple #[.int .u8 K3,.int .i64 (N3:Int),.int .i64 E3]) (by rw [F1.out,F2.out,F3.out]; simp [results,Tryz.results64,go_sem]) rfl ?_
       exact ⟨rfl,rfl⟩
      case false =>
       obtain ⟨f1,f2,f3⟩:K3 = _ /\ N3 = _ /\ E3 = _:=by simpa only [wdR,Prod.mk.injEq,if_true,if_false,Bool.false_eq_true,Bool.or_false,Bool.false_or,Bool.or_true,Bool.true_or] using HRD.out
       have F1:=hid f1
       have F2:=hid f2
       have F3:=hid f3
       clear f1 f2 f3
       go_wp2_with (first | (go_at_call 99; ((with_reducible refine HW.out.mono ?_); rintro _ w9 ⟨rfl,rfl⟩)) | (go_at_call 100; ((with_reducible refine HM.out.mono ?_); rintro _ w9 ⟨rfl,rfl⟩)) | (go_at_call 66; ((with_reducible refine HV.out.mono ?_); rintro _ w9 ⟨rfl,rfl⟩)) | (go_at_call 67; ((with_reducible refine HF.out.mono ?_); rintro _ w9 ⟨rfl,rfl⟩)) | (go_at_call 101; ((with_reducible refine HP.out.mono ?_); rintro _ w9 ⟨rfl,rfl⟩)))
       refine bodyPost_ret (v:=.tuple #[.int .u8 K3,.int .i64 (N3:Int),.int .i64 E3]) (by rw [F1.out,F2.out,F3.out]; simp [results,Tryz.results64,go_sem]) rfl ?_
       exact ⟨rfl,rfl⟩
   )
  exact hmain _ HOR.out rfl
end Go.Proofs.YtdobflpbkfkmgaaGreatDoor
