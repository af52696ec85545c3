import Derived.Test.YtflmllablfjfeaaDoorFrm
namespace Go.Proofs.YtflmllablfjfeaaDoor
open Go.RowKit Go.HK Go.FR Lib
set_option linter.unusedVariables false
set_option linter.unusedSimpArgs false
set_option linter.unusedSectionVars false
theorem beq_nat (x:Nat):(((x:Nat):Int) == 0) = decide (x = 0):=by
 by_cases h:x = 0
 ·subst h; rfl
 ·rw [decide_eq_false h]; simp; exact h
theorem bne_nat (x:Nat):(((x:Nat):Int) != 0) = decide (x ≠ 0):=by
 by_cases h:x = 0
 ·subst h; rfl
 ·rw [decide_eq_true h]; simp; exact h
theorem bit_eq {x k:Nat} (hx:x < 4294967296):(bits .and .i64 ((x:Int) / 2 ^ k) 1 == 1) = x.testBit k:=by
 rcases e:x.testBit k with _ | _
 ·rw [bit0 hx e]; rfl
 ·rw [bit1 hx e]; rfl
theorem lt16_and {a b:Nat} (ha:a < 16):a &&& b < 16:=Nat.lt_of_le_of_lt Nat.and_le_left ha
theorem lt16_or {a b:Nat} (ha:a < 16) (hb:b < 16):a ||| b < 16:=Nat.or_lt_two_pow (n:=4) ha hb
theorem lt16_xor {a b:Nat} (ha:a < 16) (hb:b < 16):a ^^^ b < 16:=Nat.xor_lt_two_pow (n:=4) ha hb
set_option maxRecDepth 100000 in
set_option maxHeartbeats 1000000 in
theorem holds_k3_3 (w:World) (wd sees a b:Nat) (hw:wd < 4) (hs:sees < 16) (ha:a < 16) (hb:b < 16) :
  Calls Tryd.prog 40 #[.int .u8 3,.int .u8 3,.int .i64 (wd:Int),.int .i64 (sees:Int),.int .i64 (a:Int),.int .i64 (b:Int)] w fun e w' => e = .returned (.bool (holdsB true 3 wd sees a b)) /\ w' = w:=by
 have g1:=bits_and sees a (by omega) (by omega)
 obtain ⟨x,hx⟩:∃ x,x = sees &&& a:=⟨_,rfl⟩
 rw [<- hx] at g1
 obtain ⟨v,hv⟩:∃ v,v = decide (x = 0):=⟨_,rfl⟩
 have g2:=beq_nat x
 rw [<- hv] at g2
 have HV:Hid (v = holdsB true 3 wd sees a b):=hid (by rw [hx] at hv; skip; rw [hv]; rfl)
 rw [<- HV.out]
 clear hv hx
 go_enter Tryd.func40,Tryd.ntmps40
 go_wp2_with (fail)
 go_ret
 exact ⟨rfl,rfl⟩
set_option maxRecDepth 100000 in
set_option maxHeartbeats 1000000 in
theorem holds_k3_4 (w:World) (wd sees a b:Nat) (hw:wd < 4) (hs:sees < 16) (ha:a < 16) (hb:b < 16) :
  Calls Tryd.prog 40 #[.int .u8 3,.int .u8 4,.int .i64 (wd:Int),.int .i64 (sees:Int),.int .i64 (a:Int),.int .i64 (b:Int)] w fun e w' => e = .returned (.bool (holdsB true 4 wd sees a b)) /\ w' = w:=by
 have g1:=bits_and a b (by omega) (by omega)
 obtain ⟨x,hx⟩:∃ x,x = a &&& b:=⟨_,rfl⟩
 have hx16:x < 16:=by rw [hx]; exact lt16_and ha
 rw [<- hx] at g1
 obtain ⟨v,hv⟩:∃ v,v = x.testBit wd:=⟨_,rfl⟩
 have g2:=bit_eq (x:=x) (k:=wd) (by omega)
 rw [<- hv] at g2
 have b1:(0:Int) <= (wd:Int):=by omega
 have HV:Hid (v = holdsB true 4 wd sees a b):=hid (by rw [hx] at hv; skip; rw [hv]; rfl)
 rw [<- HV.out]
 clear hv hx
 go_enter Tryd.func40,Tryd.ntmps40
 go_wp2_with (fail)
 go_ret
 exact ⟨rfl,rfl⟩
set_option maxRecDepth 100000 in
set_option maxHeartbeats 1000000 in
theorem holds_k3_5 (w:World) (wd sees a b:Nat) (hw:wd < 4) (hs:sees < 16) (ha:a < 16) (hb:b < 16) :
  Calls Tryd.prog 40 #[.int .u8 3,.int .u8 5,.int .i64 (wd:Int),.int .i64 (sees:Int),.int .i64 (a:Int),.int .i64 (b:Int)] w fun e w' => e = .returned (.bool (holdsB true 5 wd sees a b)) /\ w' = w:=by
 have g1:=bits_or a b (by omega) (by omega)
 obtain ⟨x,hx⟩:∃ x,x = a ||| b:=⟨_,rfl⟩
 have hx16:x < 16:=by rw [hx]; exact lt16_or ha hb
 rw [<- hx] at g1
 obtain ⟨v,hv⟩:∃ v,v = x.testBit wd:=⟨_,rfl⟩
 have g2:=bit_eq (x:=x) (k:=wd) (by omega)
 rw [<- hv] at g2
 have b1:(0:Int) <= (wd:Int):=by omega
 have HV:Hid (v = holdsB true 5 wd sees a b):=hid (by rw [hx] at hv; skip; rw [hv]; rfl)
 rw [<- HV.out]
 clear hv hx
 go_enter Tryd.func40,Tryd.ntmps40
 go_wp2_with (fail)
 go_ret
 exact ⟨rfl,rfl⟩
set_option maxRecDepth 100000 in
set_option maxHeartbeats 1000000 in
theorem holds_k3_6 (w:World) (wd sees a b:Nat) (hw:wd < 4) (hs:sees < 16) (ha:a < 16) (hb:b < 16) :
  Calls Tryd.prog 40 #[.int .u8 3,.int .u8 6,.int .i64 (wd:Int),.int .i64 (sees:Int),.int .i64 (a:Int),.int .i64 (b:Int)] w fun e w' => e = .returned (.bool (holdsB true 6 wd sees a b)) /\ w' = w:=by
 have g0:=bits_and sees a (by omega) (by omega)
 obtain ⟨y,hy⟩:∃ y,y = sees &&& a:=⟨_,rfl⟩
 have hy16:y < 16:=by rw [hy]; exact lt16_and (by omega)
 rw [<- hy] at g0
 have g1:=bits_andn y b (by omega) (by omega)
 obtain ⟨x,hx⟩:∃ x,x = andn y b:=⟨_,rfl⟩
 rw [<- hx] at g1
 obtain ⟨v,hv⟩:∃ v,v = decide (x = 0):=⟨_,rfl⟩
 have g2:=beq_nat x
 rw [<- hv] at g2
 rw [hy] at hx
 have HV:Hid (v = holdsB true 6 wd sees a b):=hid (by rw [hx] at hv; skip; rw [hv]; rfl)
 rw [<- HV.out]
 clear hv hx hy
 go_enter Tryd.func40,Tryd.ntmps40
 go_wp2_with (fail)
 go_ret
 exact ⟨rfl,rfl⟩
set_option maxRecDepth 100000 in
set_option maxHeartbeats 1000000 in
theorem holds_k3_7 (w:World) (wd sees a b:Nat) (hw:wd < 4) (hs:sees < 16) (ha:a < 16) (hb:b < 16) :
  Calls Tryd.prog 40 #[.int .u8 3,.int .u8 7,.int .i64 (wd:Int),.int .i64 (sees:Int),.int .i64 (a:Int),.int .i64 (b:Int)] w fun e w' => e = .returned (.bool (holdsB true 7 wd sees a b)) /\ w' = w:=by
 have g0:=bits_xor a b (by omega) (by omega)
 obtain ⟨y,hy⟩:∃ y,y = a ^^^ b:=⟨_,rfl⟩
 have hy16:y < 16:=by rw [hy]; exact lt16_xor ha hb
 rw [<- hy] at g0
 have g1:=bits_and sees y (by omega) (by omega)
 obtain ⟨x,hx⟩:∃ x,x = sees &&& y:=⟨_,rfl⟩
 rw [<- hx] at g1
 obtain ⟨v,hv⟩:∃ v,v = decide (x = 0):=⟨_,rfl⟩
 have g2:=beq_nat x
 rw [<- hv] at g2
 rw [hy] at hx
 have HV:Hid (v = holdsB true 7 wd sees a b):=hid (by rw [hx] at hv; skip; rw [hv]; rfl)
 rw [<- HV.out]
 clear hv hx hy
 go_enter Tryd.func40,Tryd.ntmps40
 go_wp2_with (fail)
 go_ret
 exact ⟨rfl,rfl⟩
set_option maxRecDepth 100000 in
set_option maxHeartbeats 1000000 in
theorem holds_k3_x (w:World) (op wd sees a b:Nat) (ho:op = 1 ∨ op = 2) (hw:wd < 4) (hs:sees < 16) (ha:a < 16) (hb:b < 16) :
  Calls Tryd.prog 40 #[.int .u8 3,.int .u8 (op:Int),.int .i64 (wd:Int),.int .i64 (sees:Int),.int .i64 (a:Int),.int .i64 (b:Int)] w fun e w' => e = .returned (.bool (holdsB true op wd sees a b)) /\ w' = w:=by
 have HV:Hid (false = holdsB true op wd sees a b):=hid (by rcases ho with rfl | rfl <;> rfl)
 rcases ho with rfl | rfl
 all_goals (
  try simp only [show ((1:Nat):Int) = 1 from rfl,show ((2:Nat):Int) = 2 from rfl]
  go_enter Tryd.func40,Tryd.ntmps40
  go_wp2_with (fail)
  go_ret
  exact ⟨by rw [<- HV.out]; rfl,rfl⟩)
set_option maxRecDepth 100000 in
set_option maxHeartbeats 1000000 in
theorem holds_k4_3 (w:World) (wd sees a b:Nat) (hw:wd < 4) (hs:sees < 16) (ha:a < 16) (hb:b < 16) :
  Calls Tryd.prog 40 #[.int .u8 4,.int .u8 3,.int .i64 (wd:Int),.int .i64 (sees:Int),.int .i64 (a:Int),.int .i64 (b:Int)] w fun e w' => e = .returned (.bool (holdsB false 3 wd sees a b)) /\ w' = w:=by
 obtain ⟨r,hr⟩:∃ r,r = 1 <<< wd:=⟨_,rfl⟩
 have f1:=shl_wrap (k:=wd) (by omega)
 rw [<- hr] at f1
 have hr16:r < 16:=by rw [hr,Nat.one_shiftLeft]; have:=Nat.pow_le_pow_right (n:=2) (by omega) (show wd <= 3 by omega); omega
 have b0:(0:Int) <= (wd:Int):=by omega
 have g1:=bits_and r a (by omega) (by omega)
 obtain ⟨x,hx⟩:∃ x,x = r &&& a:=⟨_,rfl⟩
 rw [<- hx] at g1
 obtain ⟨v,hv⟩:∃ v,v = decide (x = 0):=⟨_,rfl⟩
 have g2:=beq_nat x
 rw [<- hv] at g2
 have HV:Hid (v = holdsB false 3 wd sees a b):=hid (by rw [hx] at hv; rw [hr] at hv; rw [hv]; rfl)
 rw [<- HV.out]
 clear hv hx hr
 go_enter Tryd.func40,Tryd.ntmps40
 go_wp2_with (fail)
 go_ret
 exact ⟨rfl,rfl⟩
set_option maxRecDepth 100000 in
set_option maxHeartbeats 1000000 in
theorem holds_k4_4 (w:World) (wd sees a b:Nat) (hw:wd < 4) (hs:sees < 16) (ha:a < 16) (hb:b < 16) :
  Calls Tryd.prog 40 #[.int .u8 4,.int .u8 4,.int .i64 (wd:Int),.int .i64 (sees:Int),.int .i64 (a:Int),.int .i64 (b:Int)] w fun e w' => e = .returned (.bool (holdsB false 4 wd sees a b)) /\ w' = w:=by
 obtain ⟨r,hr⟩:∃ r,r = 1 <<< wd:=⟨_,rfl⟩
 have f1:=shl_wrap (k:=wd) (by omega)
 rw [<- hr] at f1
 have hr16:r < 16:=by rw [hr,Nat.one_shiftLeft]; have:=Nat.pow_le_pow_right (n:=2) (by omega) (show wd <= 3 by omega); omega
 have b0:(0:Int) <= (wd:Int):=by omega
 have g1:=bits_and a b (by omega) (by omega)
 obtain ⟨x,hx⟩:∃ x,x = a &&& b:=⟨_,rfl⟩
 have hx16:x < 16:=by rw [hx]; exact lt16_and ha
 rw [<- hx] at g1
 obtain ⟨v,hv⟩:∃ v,v = x.testBit wd:=⟨_,rfl⟩
 have g2:=bit_eq (x:=x) (k:=wd) (by omega)
 rw [<- hv] at g2
 have b1:(0:Int) <= (wd:Int):=by omega
 have HV:Hid (v = holdsB false 4 wd sees a b):=hid (by rw [hx] at hv; skip; rw [hv]; rfl)
 rw [<- HV.out]
 clear hv hx hr
 go_enter Tryd.func40,Tryd.ntmps40
 go_wp2_with (fail)
 go_ret
 exact ⟨rfl,rfl⟩
set_option maxRecDepth 100000 in
set_option maxHeartbeats 1000000 in
theorem holds_k4_5 (w:World) (wd sees a b:Nat) (hw:wd < 4) (hs:sees < 16) (ha:a < 16) (hb:b < 16) :
  Calls Tryd.prog 40 #[.int .u8 4,.int .u8 5,.int .i64 (wd:Int),.int .i64 (sees:Int),.int .i64 (a:Int),.int .i64 (b:Int)] w fun e w' => e = .returned (.bool (holdsB false 5 wd sees a b)) /\ w' = w:=by
 obtain ⟨r,hr⟩:∃ r,r = 1 <<< wd:=⟨_,rfl⟩
 have f1:=shl_wrap (k:=wd) (by omega)
 rw [<- hr] at f1
 have hr16:r < 16:=by rw [hr,Nat.one_shiftLeft]; have:=Nat.pow_le_pow_right (n:=2) (by omega) (show wd <= 3 by omega); omega
 have b0:(0:Int) <= (wd:Int):=by omega
 have g1:=bits_or a b (by omega) (by omega)
 obtain ⟨x,hx⟩:∃ x,x = a ||| b:=⟨_,rfl⟩
 have hx16:x < 16:=by rw [hx]; exact lt16_or ha hb
 rw [<- hx] at g1
 obtain ⟨v,hv⟩:∃ v,v = x.testBit wd:=⟨_,rfl⟩
 have g2:=bit_eq (x:=x) (k:=wd) (by omega)
 rw [<- hv] at g2
 have b1:(0:Int) <= (wd:Int):=by omega
 have HV:Hid (v = holdsB false 5 wd sees a b):=hid (by rw [hx] at hv; skip; rw [hv]; rfl)
 rw [<- HV.out]
 clear hv hx hr
 go_enter Tryd.func40,Tryd.ntmps40
 go_wp2_with (fail)
 go_ret
 exact ⟨rfl,rfl⟩
set_option maxRecDepth 100000 in
set_option maxHeartbeats 1000000 in
theorem holds_k4_6 (w:World) (wd sees a b:Nat) (hw:wd < 4) (hs:sees < 16) (ha:a < 16) (hb:b < 16) :
  Calls Tryd.prog 40 #[.int .u8 4,.int .u8 6,.int .i64 (wd:Int),.int .i64 (sees:Int),.int .i64 (a:Int),.int .i64 (b:Int)] w fun e w' => e = .returned (.bool (holdsB false 6 wd sees a b)) /\ w' = w:=by
 obtain ⟨r,hr⟩:∃ r,r = 1 <<< wd:=⟨_,rfl⟩
 have f1:=shl_wrap (k:=wd) (by omega)
 rw [<- hr] at f1
 have hr16:r < 16:=by rw [hr,Nat.one_shiftLeft]; have:=Nat.pow_le_pow_right (n:=2) (by omega) (show wd <= 3 by omega); omega
 have b0:(0:Int) <= (wd:Int):=by omega
 have g0:=bits_and r a (by omega) (by omega)
 obtain ⟨y,hy⟩:∃ y,y = r &&& a:=⟨_,rfl⟩
 have hy16:y < 16:=by rw [hy]; exact lt16_and (by omega)
 rw [<- hy] at g0
 have g1:=bits_andn y b (by omega) (by omega)
 obtain ⟨x,hx⟩:∃ x,x = andn y b:=⟨_,rfl⟩
 rw [<- hx] at g1
 obtain ⟨v,hv⟩:∃ v,v = decide (x = 0):=⟨_,rfl⟩
 have g2:=beq_nat x
 rw [<- hv] at g2
 rw [hy] at hx
 have HV:Hid (v = holdsB false 6 wd sees a b):=hid (by rw [hx] at hv; rw [hr] at hv; rw [hv]; rfl)
 rw [<- HV.out]
 clear hv hx hr hy
 go_enter Tryd.func40,Tryd.ntmps40
 go_wp2_with (fail)
 go_ret
 exact ⟨rfl,rfl⟩
set_option maxRecDepth 100000 in
set_option maxHeartbeats 1000000 in
theorem holds_k4_7 (w:World) (wd sees a b:Nat) (hw:wd < 4) (hs:sees < 16) (ha:a < 16) (hb:b < 16) :
  Calls Tryd.prog 40 #[.int .u8 4,.int .u8 7,.int .i64 (wd:Int),.int .i64 (sees:Int),.int .i64 (a:Int),.int .i64 (b:Int)] w fun e w' => e = .returned (.bool (holdsB false 7 wd sees a b)) /\ w' = w:=by
 obtain ⟨r,hr⟩:∃ r,r = 1 <<< wd:=⟨_,rfl⟩
 have f1:=shl_wrap (k:=wd) (by omega)
 rw [<- hr] at f1
 have hr16:r < 16:=by rw [hr,Nat.one_shiftLeft]; have:=Nat.pow_le_pow_right (n:=2) (by omega) (show wd <= 3 by omega); omega
 have b0:(0:Int) <= (wd:Int):=by omega
 have g0:=bits_xor a b (by omega) (by omega)
 obtain ⟨y,hy⟩:∃ y,y = a ^^^ b:=⟨_,rfl⟩
 have hy16:y < 16:=by rw [hy]; exact lt16_xor ha hb
 rw [<- hy] at g0
 have g1:=bits_and r y (by omega) (by omega)
 obtain ⟨x,hx⟩:∃ x,x = r &&& y:=⟨_,rfl⟩
 rw [<- hx] at g1
 obtain ⟨v,hv⟩:∃ v,v = decide (x = 0):=⟨_,rfl⟩
 have g2:=beq_nat x
 rw [<- hv] at g2
 rw [hy] at hx
 have HV:Hid (v = holdsB false 7 wd sees a b):=hid (by rw [hx] at hv; rw [hr] at hv; rw [hv]; rfl)
 rw [<- HV.out]
 clear hv hx hr hy
 go_enter Tryd.func40,Tryd.ntmps40
 go_wp2_with (fail)
 go_ret
 exact ⟨rfl,rfl⟩
set_option maxRecDepth 100000 in
set_option maxHeartbeats 1000000 in
theorem holds_k4_10 (w:World) (wd sees a b:Nat) (hw:wd < 4) (hs:sees < 16) (ha:a < 16) (hb:b < 16) :
  Calls Tryd.prog 40 #[.int .u8 4,.int .u8 10,.int .i64 (wd:Int),.int .i64 (sees:Int),.int .i64 (a:Int),.int .i64 (b:Int)] w fun e w' => e = .returned (.bool (holdsB false 10 wd sees a b)) /\ w' = w:=by
 obtain ⟨r,hr⟩:∃ r,r = 1 <<< wd:=⟨_,rfl⟩
 have f1:=shl_wrap (k:=wd) (by omega)
 rw [<- hr] at f1
 have hr16:r < 16:=by rw [hr,Nat.one_shiftLeft]; have:=Nat.pow_le_pow_right (n:=2) (by omega) (show wd <= 3 by omega); omega
 have b0:(0:Int) <= (wd:Int):=by omega
 have g1:=bits_andn sees a (by omega) (by omega)
 obtain ⟨x,hx⟩:∃ x,x = andn sees a:=⟨_,rfl⟩
 rw [<- hx] at g1
 obtain ⟨v,hv⟩:∃ v,v = decide (x = 0):=⟨_,rfl⟩
 have g2:=beq_nat x
 rw [<- hv] at g2
 have HV:Hid (v = holdsB false 10 wd sees a b):=hid (by rw [hx] at hv; skip; rw [hv]; rfl)
 rw [<- HV.out]
 clear hv hx hr
 go_enter Tryd.func40,Tryd.ntmps40
 go_wp2_with (fail)
 go_ret
 exact ⟨rfl,rfl⟩
set_option maxRecDepth 100000 in
set_option maxHeartbeats 1000000 in
theorem holds_k4_11 (w:World) (wd sees a b:Nat) (hw:wd < 4) (hs:sees < 16) (ha:a < 16) (hb:b < 16) :
  Calls Tryd.prog 40 #[.int .u8 4,.int .u8 11,.int .i64 (wd:Int),.int .i64 (sees:Int),.int .i64 (a:Int),.int .i64 (b:Int)] w fun e w' => e = .returned (.bool (holdsB false 11 wd sees a b)) /\ w' = w:=by
 obtain ⟨r,hr⟩:∃ r,r = 1 <<< wd:=⟨_,rfl⟩
 have f1:=shl_wrap (k:=wd) (by omega)
 rw [<- hr] at f1
 have hr16:r < 16:=by rw [hr,Nat.one_shiftLeft]; have:=Nat.pow_le_pow_right (n:=2) (by omega) (show wd <= 3 by omega); omega
 have b0:(0:Int) <= (wd:Int):=by omega
 have g1:=bits_and sees a (by omega) (by omega)
 obtain ⟨x,hx⟩:∃ x,x = sees &&& a:=⟨_,rfl⟩
 rw [<- hx] at g1
 obtain ⟨v,hv⟩:∃ v,v = decide (x ≠ 0):=⟨_,rfl⟩
 have g2:=bne_nat x
 rw [<- hv] at g2
 have HV:Hid (v = holdsB false 11 wd sees a b):=hid (by rw [hx] at hv; skip; rw [hv]; rfl)
 rw [<- HV.out]
 clear hv hx hr
 go_enter Tryd.func40,Tryd.ntmps40
 go_wp2_with (fail)
 go_ret
 exact ⟨rfl,rfl⟩
set_option maxRecDepth 100000 in
set_option maxHeartbeats 1000000 in
theorem holds_k4_x (w:World) (op wd sees a b:Nat) (ho:op = 1 ∨ op = 2) (hw:wd < 4) (hs:sees < 16) (ha:a < 16) (hb:b < 16) :
  Calls Tryd.prog 40 #[.int .u8 4,.int .u8 (op:Int),.int .i64 (wd:Int),.int .i64 (sees:Int),.int .i64 (a:Int),.int .i64 (b:Int)] w fun e w' => e = .returned (.bool (holdsB false op wd sees a b)) /\ w' = w:=by
 obtain ⟨r,hr⟩:∃ r,r = 1 <<< wd:=⟨_,rfl⟩
 have f1:=shl_wrap (k:=wd) (by omega)
 rw [<- hr] at f1
 have hr16:r < 16:=by rw [hr,Nat.one_shiftLeft]; have:=Nat.pow_le_pow_right (n:=2) (by omega) (show wd <= 3 by omega); omega
 have b0:(0:Int) <= (wd:Int):=by omega
 have HV:Hid (false = holdsB false op wd sees a b):=hid (by rcases ho with rfl | rfl <;> rfl)
 rcases ho with rfl | rfl
 all_goals (
  try simp only [show ((1:Nat):Int) = 1 from rfl,show ((2:Nat):Int) = 2 from rfl]
  go_enter Tryd.func40,Tryd.ntmps40
  go_wp2_with (fail)
  go_ret
  exact ⟨by rw [<- HV.out]; rfl,rfl⟩)
def opK (kind op:Nat):Prop:=(1 <= op /\ op <= 7) ∨ (kind = 4 /\ (op = 10 ∨ op = 11))
theorem holds_call (w:World) (kind op wd sees a b:Nat) (hk:kind = 3 ∨ kind = 4) (ho:opK kind op) (hw:wd < 4) (hs:sees < 16) (ha:a < 16) (hb:b < 16) :
  Calls Tryd.prog 40 #[.int .u8 (kind:Int),.int .u8 (op:Int),.int .i64 (wd:Int),.int .i64 (sees:Int),.int .i64 (a:Int),.int .i64 (b:Int)] w fun e w' => e = .returned (.bool (holdsB (decide (kind = 3)) op wd sees a b)) /\ w' = w:=by
 unfold opK at ho
 rcases hk with rfl | rfl
 ·rcases (by omega:op = 3 ∨ op = 4 ∨ op = 5 ∨ op = 6 ∨ op = 7 ∨ (op = 1 ∨ op = 2)) with rfl | rfl | rfl | rfl | rfl | h
  ·exact holds_k3_3 w wd sees a b hw hs ha hb
  ·exact holds_k3_4 w wd sees a b hw hs ha hb
  ·exact holds_k3_5 w wd sees a b hw hs ha hb
  ·exact holds_k3_6 w wd sees a b hw hs ha hb
  ·exact holds_k3_7 w wd sees a b hw hs ha hb
  ·exact holds_k3_x w op wd sees a b h hw hs ha hb
 ·rcases (by omega:op = 3 ∨ op = 4 ∨ op = 5 ∨ op = 6 ∨ op = 7 ∨ op = 10 ∨ op = 11 ∨ (op = 1 ∨ op = 2)) with rfl | rfl | rfl | rfl | rfl | rfl | rfl | h
  ·exact holds_k4_3 w wd sees a b hw hs ha hb
  ·exact holds_k4_4 w wd sees a b hw hs ha hb
  ·exact holds_k4_5 w wd sees a b hw hs ha hb
  ·exact holds_k4_6 w wd sees a b hw hs ha hb
  ·exact holds_k4_7 w wd sees a b hw hs ha hb
  ·exact holds_k4_10 w wd sees a b hw hs ha hb
  ·exact holds_k4_11 w wd sees a b hw hs ha hb
  ·exact holds_k4_x w op wd sees a b h hw hs ha hb
end Go.Proofs.YtflmllablfjfeaaDoor
