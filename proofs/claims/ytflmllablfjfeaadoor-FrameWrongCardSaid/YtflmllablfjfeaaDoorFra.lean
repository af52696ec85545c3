import Derived.Test.YtflmllablfjfeaaDoorKit
import Derived.Test.YtflmllablfjfeaaDoorPlY
import Derived.Test.YtflmllablfjfeaaDoorProg
import Derived.Lib.Hide
namespace Go.Proofs.YtflmllablfjfeaaDoor
open Go.RowKit Go.HK Go.FR
set_option linter.unusedVariables false
set_option linter.unusedSimpArgs false
set_option linter.unusedSectionVars false
def IsR (W:World) (g o:Nat) (xs:List Nat):Prop:=∀ (i x:Nat),xs[i]? = some x -> W.cell? ⟨g,o + i,none⟩ = some (.int .i64 (x:Int))
theorem IsR.below {W W':World} {g o:Nat} {xs:List Nat} (h:IsR W g o xs) (hb:Below W.heap.size W W'):IsR W' g o xs :=
 fun i x hx => (hb.cell (p:=⟨g,o + i,none⟩) (World.block_lt_of_cell? W _ (h i x hx))).trans (h i x hx)
theorem quo_nat (m k:Nat):(m:Int) / 2 ^ k = ((m >>> k:Nat):Int):=by
 rw [Nat.shiftRight_eq_div_pow]; norm_cast
theorem bit1 {m k:Nat} (hm:m < 4294967296) (h:m.testBit k = true):bits .and .i64 ((m:Int) / 2 ^ k) 1 = 1:=by
 rw [quo_nat]
 have e:=bits_and (m >>> k) 1 (by rw [Nat.shiftRight_eq_div_pow]; exact Nat.lt_of_le_of_lt (Nat.div_le_self _ _) hm) (by omega)
 rw [show ((1:Nat):Int) = 1 from rfl] at e
 rw [e,(testBit_one m k).2 h]; rfl
theorem bit0 {m k:Nat} (hm:m < 4294967296) (h:m.testBit k = false):bits .and .i64 ((m:Int) / 2 ^ k) 1 = 0:=by
 rw [quo_nat]
 have e:=bits_and (m >>> k) 1 (by rw [Nat.shiftRight_eq_div_pow]; exact Nat.lt_of_le_of_lt (Nat.div_le_self _ _) hm) (by omega)
 rw [show ((1:Nat):Int) = 1 from rfl] at e
 rw [e]
 have h1:¬ (m >>> k) &&& 1 = 1:=fun h2 => by rw [(testBit_one m k).1 h2] at h; cases h
 have h2:(m >>> k) &&& 1 <= 1:=Nat.and_le_right
 have:(m >>> k) &&& 1 = 0:=by omega
 rw [this]; rfl
def persK (rel:List Nat) (m:Nat):Nat -> Bool
 | 0 => true
 | k + 1 => persK rel m k && (!m.testBit k || decide (andn (rel.getD k 0) m = 0))
theorem persK_mono {rel:List Nat} {m:Nat}:∀ {a b:Nat},a <= b -> persK rel m b = true -> persK rel m a = true
 | a,0,h,h2 => by
  obtain rfl:a = 0:=by omega
  exact h2
 | a,b + 1,h,h2 => by
  by_cases e:a = b + 1
  ·subst e; exact h2
  ·unfold persK at h2
   rw [Bool.and_eq_true] at h2
   exact persK_mono (by omega) h2.1
set_option maxRecDepth 100000 in
set_option maxHeartbeats 1000000 in
theorem persists_call (w:World) (g o n c:Nat) (rel:List Nat) (hR:IsR w g o rel) (hn:rel.length = n) (hok:FrOk rel) (m:Nat) (hm:m < 16) :
  Calls Tryd.prog 44 #[.slice (some ⟨g,o,none⟩) n c,.int .i64 (m:Int)] w fun e w' => e = .returned (.bool (persK rel m n)) /\ w' = w:=by
 have HN:=Lib.hid hn
 have h4:n <= 4:=by have:=hok.len; omega
 have HR:=Lib.hid hR
 clear hR hn
 go_enter Tryd.func44,Tryd.ntmps44
 go_wp2_with (fail)
 go_loopw [9] (fun i wr => ∃ k:Nat,k <= n /\ i = .int .i64 k /\ persK rel m k = true /\ wr = w) (fun i _ => n - (intOf i).toNat)
 case atStart => exact ⟨0,by omega,rfl,rfl,rfl⟩
 case round =>
  obtain ⟨k,hk,rfl,hp,rfl⟩:=hrel
  by_cases hkn:(k:Int) < (n:Int)
  ·have b0:(0:Int) <= (k:Int):=by omega
   obtain ⟨x,hx⟩:∃ x,rel[k]? = some x:=⟨_,List.getElem?_eq_getElem (by have:=HN.out; omega)⟩
   have hc:=HR.out k x hx
   have hgx:rel.getD k 0 = x:=getD_get hx
   have hx16:x < 16:=by rw [<- hgx]; exact hok.get k
   have f2:=bits_andn x m (by omega) (by omega)
   rcases e:m.testBit k with _ | _
   ·have f1:=bit0 (by omega) e
    have hp2:Hid (persK rel m (k + 1) = true):=Lib.hid (by unfold persK; rw [hp,e]; rfl)
    clear f2 hp
    go_wp2_with (fail)
    go_roundw
    case rel => exact ⟨k + 1,by omega,by go_num,hp2.out,trivial⟩
    case measure => simp [intOf]; omega
   ·have f1:=bit1 (by omega) e
    by_cases hz:andn x m = 0
    ·have hp2:Hid (persK rel m (k + 1) = true):=Lib.hid (by unfold persK; rw [hp,e,hgx,hz]; rfl)
     rw [hz] at f2
     clear hp
     go_wp2_with (fail)
     go_roundw
     case rel => exact ⟨k + 1,by omega,by go_num,hp2.out,trivial⟩
     case measure => simp [intOf]; omega
    ·have f3:(bits .andNot .i64 (x:Int) (m:Int) != 0) = true:=by rw [f2]; simp; exact hz
     have hpn:Hid (persK rel m n = false):=Lib.hid (by
      rcases e2:persK rel m n with _ | _
      ·rfl
      ·have:=persK_mono (show k + 1 <= n by omega) e2
       unfold persK at this
       rw [hp,e,hgx] at this
       simp [hz] at this)
     clear f2 hp
     go_wp2_with (fail)
     go_ret
     exact ⟨by rw [hpn.out]; rfl,rfl⟩
  ·obtain rfl:k = n:=by omega
   go_wp2_with (fail)
   go_ret
   exact ⟨rfl,rfl⟩
end Go.Proofs.YtflmllablfjfeaaDoor
