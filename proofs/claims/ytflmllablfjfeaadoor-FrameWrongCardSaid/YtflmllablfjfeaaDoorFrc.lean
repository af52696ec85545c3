import Derived.Test.YtflmllablfjfeaaDoorFrb
import Derived.Deep.CutBlock
import Derived.Deep.CutRange
namespace Go.Proofs.YtflmllablfjfeaaDoor
open Go.RowKit Go.HK Go.FR Lib
set_option linter.unusedVariables false
set_option linter.unusedSimpArgs false
set_option linter.unusedSectionVars false
theorem bit1u {m k:Nat} (hm:m < 256) (h:m.testBit k = true):bits .and .u8 ((m:Int) / 2 ^ k) 1 = 1:=by
 rw [quo_nat]
 have e:=u8_and_nat (m >>> k) 1 (by rw [Nat.shiftRight_eq_div_pow]; exact Nat.lt_of_le_of_lt (Nat.div_le_self _ _) hm) (by omega)
 rw [show ((1:Nat):Int) = 1 from rfl] at e
 rw [e,(testBit_one m k).2 h]; rfl
theorem bit0u {m k:Nat} (hm:m < 256) (h:m.testBit k = false):bits .and .u8 ((m:Int) / 2 ^ k) 1 = 0:=by
 rw [quo_nat]
 have e:=u8_and_nat (m >>> k) 1 (by rw [Nat.shiftRight_eq_div_pow]; exact Nat.lt_of_le_of_lt (Nat.div_le_self _ _) hm) (by omega)
 rw [show ((1:Nat):Int) = 1 from rfl] at e
 rw [e]
 have h1:¬ (m >>> k) &&& 1 = 1:=fun h2 => by rw [(testBit_one m k).1 h2] at h; cases h
 have h2:(m >>> k) &&& 1 <= 1:=Nat.and_le_right
 have:(m >>> k) &&& 1 = 0:=by omega
 rw [this]; rfl
theorem need_lt' {c:Nat} {rel:List Nat} (hr:FrOk rel) {w:Nat} (hw:w < rel.length) (k:Nat) (hk:k <= 3):needK c rel w k < 16:=by
 have h3:=Nat.lt_of_lt_of_le (need_lt (c:=c) hr hw) (pow_le4 hr.len)
 have e2:need2 c rel w <= need3 c rel w:=by
  unfold need3
  split
  ·exact Nat.left_le_or
  ·exact Nat.le_refl _
 have e1:need1 c w <= need2 c rel w:=by
  unfold need2
  split
  ·exact Nat.left_le_or
  ·exact Nat.le_refl _
 have e3:needK c rel w 3 = need3 c rel w:=rfl
 rcases (by omega:k = 0 ∨ k = 1 ∨ k = 2 ∨ k = 3) with rfl | rfl | rfl | rfl
 ·exact (by decide:(0:Nat) < 16)
 ·show need1 c w < 16; omega
 ·show need2 c rel w < 16; omega
 ·omega
def cf (k:Nat):Value:=.func (.func (81 + k)) #[] #[]
set_option maxRecDepth 100000 in
theorem cond_index (k:Nat) (h:k < 3) (w:World):(Instr.index 105 (.agg #[.func (.func 81) #[] #[],.func (.func 82) #[] #[],.func (.func 83) #[] #[]]) (.int .i64 (k:Int))).run Tryd.prog w = .ok (cf k) w:=by
 rcases (by omega:k = 0 ∨ k = 1 ∨ k = 2) with rfl | rfl | rfl <;> rfl
def RetN (w:World) (v:Nat) (e:Ending) (w':World):Prop:=e = .returned (.int .i64 (v:Int)) /\ Below w.heap.size w w'
set_option maxRecDepth 100000 in
set_option maxHeartbeats 2000000 in
theorem lacking_call (w:World) (g o n c:Nat) (rel:List Nat) (hR:IsR w g o rel) (hn:rel.length = n) (hok:FrOk rel) (cc:Nat) (hc:cc < 256) (z:Nat) (hz:z < n) :
  Calls Tryd.prog 47 #[.slice (some ⟨g,o,none⟩) n c,.int .u8 (cc:Int),.int .i64 (z:Int)] w (RetN w (lackS cc rel z)):=by
 have h4:n <= 4:=by have:=hok.len; omega
 by_cases hc0:cc = 0
 ·subst hc0
  have:lackS 0 rel z = 0:=rfl
  rw [this]
  go_enter Tryd.func47,Tryd.ntmps47
  go_wp2_with (fail)
  go_ret
  exact ⟨rfl,Below.refl _ _⟩
 ·have hl:lackS cc rel z = andn (needK cc rel z 3) (rel.getD z 0):=by unfold lackS; rw [if_neg hc0]
  have hn0:=fun k hk => need_lt' (c:=cc) hok (show z < rel.length by omega) k hk
  obtain ⟨y,hy⟩:∃ y,rel[z]? = some y:=⟨_,List.getElem?_eq_getElem (by omega)⟩
  have hgy:rel.getD z 0 = y:=getD_get hy
  have hy16:y < 16:=by rw [<- hgy]; exact hok.get z
  rw [hl,hgy]
  have H1:=hid (fun W v => refl_call W v z (by omega))
  have H2:=hid (fun W (h:IsR W g o rel) => trans_call W g o n c rel h hn hok z hz)
  have H3:=hid (fun W (h:IsR W g o rel) => sym_call W g o n c rel h hn hok z hz)
  have HCO:=hid (fun W => conds_call W)
  have HR:=hid hR
  have HN0:=hid hn0
  have HY:=hid hy
  have hcc:¬ (cc:Int) = 0:=by omega
  have bz0:(0:Int) <= (z:Int):=by omega
  have bz1:(z:Int) < (n:Int):=by omega
  have HN:Hid (rel.length = n):=hid hn
  clear hR hn0 hy hl hn hgy
  go_enter Tryd.func47,Tryd.ntmps47
  go_wp2_with (go_at_call 71; ((with_reducible refine (HCO.out _).mono ?_); rintro e w1 ⟨rfl,rfl⟩))
  go_loopw [7,13] (fun v i wr => ∃ k:Nat,k <= 3 /\ i = .int .i64 k /\ v = .int .i64 ((needK cc rel z k:Nat):Int) /\ Below w.heap.size w wr) (fun _ i _ => 3 - (intOf i).toNat)
  case atStart => exact ⟨0,by omega,rfl,rfl,(Below.refl _ w).alloc (Nat.le_refl _) _⟩
  case round =>
   obtain ⟨k,hk,rfl,rfl,hB⟩:=hrel
   have HB:=hid hB
   have hRr:IsR wr g o rel:=by
    intro i x hx
    exact (hB.cell (p:=⟨g,o + i,none⟩) (World.block_lt_of_cell? w _ (HR.out i x hx))).trans (HR.out i x hx)
   have h16:=HN0.out k hk
   clear hB
   by_cases hk3:k = 3
   rotate_left
   ·have b3:(k:Int) < 3:=by omega
    have b0:(0:Int) <= (k:Int):=by omega
    obtain ⟨fv,hfv⟩:∃ fv,fv = cf k:=⟨_,rfl⟩
    have x0:=fun W => cond_index k (by omega) W
    rw [<- hfv] at x0
    have HFV:=hid hfv
    clear hfv
    go_upto_region 7 with (fail)
    have hfv:=HFV.out
    clear x0
    rcases (by omega:k = 0 ∨ k = 1 ∨ k = 2) with rfl | rfl | rfl
    ·have hfe:fv = .func (.func 81) #[] #[]:=hfv
     clear hfv HFV
     subst hfe
     have hq:needK cc rel z 1 = if cc.testBit 0 = true then needK cc rel z 0 ||| 1 <<< z else needK cc rel z 0:=by show need1 cc z = _; unfold need1; split <;> simp [needK]
     rcases e:cc.testBit 0 with _ | _
     ·have f1:=bit0u hc e
      rw [e] at hq
      have HQ:=hid hq
      clear hq h16
      rw [Int.pow_zero,Int.ediv_one] at f1
      go_wp2_with (fail)
      go_roundw
      case rel => exact ⟨1,by omega,rfl,by rw [HQ.out]; rfl,HB.out⟩
      case measure => simp [intOf]
     ·have f1:=bit1u hc e
      rw [Int.pow_zero,Int.ediv_one] at f1
      obtain ⟨q,hqe⟩:∃ q,q = (1 <<< z:Nat):=⟨_,rfl⟩
      have hq16:q < 16:=by rw [hqe]; exact one_shl_lt (by omega)
      have hcl:=H1.out wr (.slice (some ⟨g,o,none⟩) n c)
      rw [<- hqe] at hcl hq
      rw [e] at hq
      have f2:=bits_or (needK cc rel z 0) q (by omega) (by omega)
      have HQ:=hid hq
      have HCL:=hid hcl
      clear hq hcl hqe
      go_wp2_with (go_at_call 81; ((with_reducible refine HCL.out.mono ?_); rintro e w1 ⟨rfl,rfl⟩))
      go_roundw
      case rel => exact ⟨1,by omega,rfl,by rw [HQ.out]; rfl,HB.out⟩
      case measure => simp [intOf]
    ·have hfe:fv = .func (.func 82) #[] #[]:=hfv
     clear hfv HFV
     subst hfe
     have hq:needK cc rel z 2 = if cc.testBit 1 = true then needK cc rel z 1 ||| transK rel z n else needK cc rel z 1:=by rw [<- HN.out]; rfl
     rcases e:cc.testBit 1 with _ | _
     ·have f1:=bit0u hc e
      rw [show (2:Int) ^ 1 = 2 from rfl] at f1
      rw [e] at hq
      have HQ:=hid hq
      clear hq h16
      go_wp2_with (fail)
      go_roundw
      case rel => exact ⟨2,by omega,rfl,by rw [HQ.out]; rfl,HB.out⟩
      case measure => simp [intOf]
     ·have f1:=bit1u hc e
      rw [show (2:Int) ^ 1 = 2 from rfl] at f1
      obtain ⟨q,hqe⟩:∃ q,q = transK rel z n:=⟨_,rfl⟩
      have hq16:q < 16:=by rw [hqe]; exact Nat.lt_of_lt_of_le (transK_lt hok z n) (pow_le4 hok.len)
      have hcl:=H2.out wr hRr
      rw [<- hqe] at hcl hq
      rw [e] at hq
      have f2:=bits_or (needK cc rel z 1) q (by omega) (by omega)
      have HQ:=hid hq
      have HCL:=hid hcl
      clear hq hcl hqe
      go_wp2_with (go_at_call 82; ((with_reducible refine HCL.out.mono ?_); rintro e w1 ⟨rfl,rfl⟩))
      go_roundw
      case rel => exact ⟨2,by omega,rfl,by rw [HQ.out]; rfl,HB.out⟩
      case measure => simp [intOf]
    ·have hfe:fv = .func (.func 83) #[] #[]:=hfv
     clear hfv HFV
     subst hfe
     have hq:needK cc rel z 3 = if cc.testBit 2 = true then needK cc rel z 2 ||| symK rel z n else needK cc rel z 2:=by rw [<- HN.out]; rfl
     rcases e:cc.testBit 2 with _ | _
     ·have f1:=bit0u hc e
      rw [show (2:Int) ^ 2 = 4 from rfl] at f1
      rw [e] at hq
      have HQ:=hid hq
      clear hq h16
      go_wp2_with (fail)
      go_roundw
      case rel => exact ⟨3,by omega,rfl,by rw [HQ.out]; rfl,HB.out⟩
      case measure => simp [intOf]
     ·have f1:=bit1u hc e
      rw [show (2:Int) ^ 2 = 4 from rfl] at f1
      obtain ⟨q,hqe⟩:∃ q,q = symK rel z n:=⟨_,rfl⟩
      have hq16:q < 16:=by rw [hqe]; exact Nat.lt_of_lt_of_le (maskN_lt _ n) (pow_le4 h4)
      have hcl:=H3.out wr hRr
      rw [<- hqe] at hcl hq
      rw [e] at hq
      have f2:=bits_or (needK cc rel z 2) q (by omega) (by omega)
      have HQ:=hid hq
      have HCL:=hid hcl
      clear hq hcl hqe
      go_wp2_with (go_at_call 83; ((with_reducible refine HCL.out.mono ?_); rintro e w1 ⟨rfl,rfl⟩))
      go_roundw
      case rel => exact ⟨3,by omega,rfl,by rw [HQ.out]; rfl,HB.out⟩
      case measure => simp [intOf]
   ·subst hk3
    have hy:=hRr z y HY.out
    have f2:=bits_andn (needK cc rel z 3) y (by omega) (by omega)
    clear h16
    go_wp2_with (fail)
    go_ret
    exact ⟨rfl,HB.out⟩
end Go.Proofs.YtflmllablfjfeaaDoor
