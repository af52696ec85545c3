import Derived.Test.YtflmllablfjfeaaDoorFra
import Derived.Laws.EntriesVeiled
namespace Go.Proofs.YtflmllablfjfeaaDoor
open Go.RowKit Go.HK Go.FR Lib
set_option linter.unusedVariables false
set_option linter.unusedSimpArgs false
set_option linter.unusedSectionVars false
theorem shl_nat {k:Nat} (h:k < 32):(2:Int) ^ k = ((1 <<< k:Nat):Int):=by
 rw [Nat.one_shiftLeft]; norm_cast
theorem shl_wrap {k:Nat} (h:k < 32):IntKind.i64.wrap ((2:Int) ^ k) = ((1 <<< k:Nat):Int):=by
 rw [shl_nat h]
 have:(1 <<< k:Nat) < 4294967296:=by
  rw [Nat.one_shiftLeft]
  have:=Nat.pow_le_pow_right (n:=2) (by omega) (show k <= 31 by omega)
  omega
 obtain ⟨x,hx⟩:∃ x:Nat,x = 1 <<< k:=⟨_,rfl⟩
 rw [<- hx] at this ⊢
 exact IntWalk.i64_in _ (by omega)
theorem symK_succ (rel:List Nat) (z k:Nat):symK rel z (k + 1) = if (rel.getD k 0).testBit z = true then symK rel z k ||| 1 <<< k else symK rel z k:=rfl
set_option maxRecDepth 100000 in
set_option maxHeartbeats 1000000 in
theorem refl_call (w:World) (v:Value) (k:Nat) (hk:k < 32):Calls Tryd.prog 81 #[v,.int .i64 (k:Int)] w fun e w' => e = .returned (.int .i64 ((1 <<< k:Nat):Int)) /\ w' = w:=by
 have f1:=shl_wrap hk
 have b0:(0:Int) <= (k:Int):=by omega
 go_enter Tryd.func81,Tryd.ntmps81
 go_wp2_with (fail)
 go_ret
 exact ⟨rfl,rfl⟩
set_option maxRecDepth 100000 in
set_option maxHeartbeats 1000000 in
theorem conds_call (w:World):Calls Tryd.prog 71 #[] w fun e w' => e = .returned (.agg #[.func (.func 81) #[] #[],.func (.func 82) #[] #[],.func (.func 83) #[] #[]]) /\ w' = w.alloc (.cells #[.func (.func 81) #[] #[],.func (.func 82) #[] #[],.func (.func 83) #[] #[]] 105):=by
 go_enter Tryd.func71,Tryd.ntmps71
 go_wp2_with (fail)
 refine bodyPost_ret (results_cell_row (p:=0) (ty:=105) (by kernel_rfl) _ _ w.heap.size 105 _ (0,0) _ rfl (HK.blk_new _ _) Tryd.underlying105 rfl (by kernel_rfl)) rfl ?_
 exact ⟨rfl,rfl⟩
set_option maxRecDepth 100000 in
set_option maxHeartbeats 1000000 in
theorem trans_call (w:World) (g o n c:Nat) (rel:List Nat) (hR:IsR w g o rel) (hn:rel.length = n) (hok:FrOk rel) (z:Nat) (hz:z < n) :
  Calls Tryd.prog 82 #[.slice (some ⟨g,o,none⟩) n c,.int .i64 (z:Int)] w fun e w' => e = .returned (.int .i64 ((transK rel z n:Nat):Int)) /\ w' = w:=by
 have HN:=hid hn
 have h4:n <= 4:=by have:=hok.len; omega
 have HR:=hid hR
 obtain ⟨y,hy⟩:∃ y,rel[z]? = some y:=⟨_,List.getElem?_eq_getElem (by omega)⟩
 have hcz:=hR z y hy
 have hgy:rel.getD z 0 = y:=getD_get hy
 have hy16:y < 16:=by rw [<- hgy]; exact hok.get z
 have HGY:=hid hgy
 clear hR hn hy hgy
 have bz0:(0:Int) <= (z:Int):=by omega
 have bz1:(z:Int) < (n:Int):=by omega
 go_enter Tryd.func82,Tryd.ntmps82
 go_wp2_with (fail)
 go_loopw [5,9] (fun v i wr => ∃ k:Nat,k <= n /\ i = .int .i64 k /\ v = .int .i64 ((transK rel z k:Nat):Int) /\ wr = w) (fun _ i _ => n - (intOf i).toNat)
 case atStart => exact ⟨0,by omega,rfl,rfl,rfl⟩
 case round =>
  obtain ⟨k,hk,rfl,rfl,rfl⟩:=hrel
  by_cases hkn:(k:Int) < (n:Int)
  ·have b0:(0:Int) <= (k:Int):=by omega
   obtain ⟨x,hx⟩:∃ x,rel[k]? = some x:=⟨_,List.getElem?_eq_getElem (by have:=HN.out; omega)⟩
   have hc:=HR.out k x hx
   have hgx:rel.getD k 0 = x:=getD_get hx
   have hx16:x < 16:=by rw [<- hgx]; exact hok.get k
   have ht16:transK rel z k < 16:=Nat.lt_of_lt_of_le (transK_lt hok z k) (pow_le4 hok.len)
   have f2:=bits_or (transK rel z k) x (by omega) (by omega)
   rcases e:y.testBit k with _ | _
   ·have f1:=bit0 (by omega) e
    have hp2:Hid (transK rel z (k + 1) = transK rel z k):=hid (by show (if _ then _ else _) = _; rw [HGY.out,e]; rfl)
    clear f2 hx hgx
    go_wp2_with (fail)
    go_roundw
    case rel => exact ⟨k + 1,by omega,by go_num,by rw [hp2.out],trivial⟩
    case measure => simp [intOf]; omega
   ·have f1:=bit1 (by omega) e
    have hp2:Hid (transK rel z (k + 1) = transK rel z k ||| x):=hid (by show (if _ then _ else _) = _; rw [HGY.out,e,hgx]; rfl)
    clear hx hgx
    go_wp2_with (fail)
    go_roundw
    case rel => exact ⟨k + 1,by omega,by go_num,by rw [hp2.out],trivial⟩
    case measure => simp [intOf]; omega
  ·obtain rfl:k = n:=by omega
   go_wp2_with (fail)
   go_ret
   exact ⟨rfl,rfl⟩
set_option maxRecDepth 100000 in
set_option maxHeartbeats 1000000 in
theorem sym_call (w:World) (g o n c:Nat) (rel:List Nat) (hR:IsR w g o rel) (hn:rel.length = n) (hok:FrOk rel) (z:Nat) (hz:z < n) :
  Calls Tryd.prog 83 #[.slice (some ⟨g,o,none⟩) n c,.int .i64 (z:Int)] w fun e w' => e = .returned (.int .i64 ((symK rel z n:Nat):Int)) /\ w' = w:=by
 have HN:=hid hn
 have h4:n <= 4:=by have:=hok.len; omega
 have HR:=hid hR
 clear hR hn
 have bz0:(0:Int) <= (z:Int):=by omega
 go_enter Tryd.func83,Tryd.ntmps83
 go_wp2_with (fail)
 go_loopw [5,9] (fun v i wr => ∃ k:Nat,k <= n /\ i = .int .i64 k /\ v = .int .i64 ((symK rel z k:Nat):Int) /\ wr = w) (fun _ i _ => n - (intOf i).toNat)
 case atStart => exact ⟨0,by omega,rfl,rfl,rfl⟩
 case round =>
  obtain ⟨k,hk,rfl,rfl,rfl⟩:=hrel
  by_cases hkn:(k:Int) < (n:Int)
  ·have b0:(0:Int) <= (k:Int):=by omega
   obtain ⟨x,hx⟩:∃ x,rel[k]? = some x:=⟨_,List.getElem?_eq_getElem (by have:=HN.out; omega)⟩
   have hc:=HR.out k x hx
   have hgx:rel.getD k 0 = x:=getD_get hx
   have hx16:x < 16:=by rw [<- hgx]; exact hok.get k
   have ht16:symK rel z k < 16:=Nat.lt_of_lt_of_le (maskN_lt _ k) (pow_le4 (by omega))
   have h1k:=one_shl_lt (w:=k) (by omega)
   have f2:=bits_or (symK rel z k) (1 <<< k) (by omega) (by omega)
   have f3:=shl_wrap (k:=k) (by omega)
   obtain ⟨y,hy⟩:∃ y:Nat,y = 1 <<< k:=⟨_,rfl⟩
   rw [<- hy] at f2 f3
   have HY:=hid hy
   clear hy h1k
   rcases e:x.testBit z with _ | _
   ·have f1:=bit0 (by omega) e
    have hp2:Hid (symK rel z (k + 1) = symK rel z k):=hid (by rw [symK_succ,hgx,e]; rfl)
    clear f2 hx hgx
    go_wp2_with (fail)
    go_roundw
    case rel => exact ⟨k + 1,by omega,by go_num,by rw [hp2.out],trivial⟩
    case measure => simp [intOf]; omega
   ·have f1:=bit1 (by omega) e
    have hp2:Hid (symK rel z (k + 1) = symK rel z k ||| y):=hid (by rw [symK_succ,hgx,e,HY.out]; rfl)
    clear hx hgx
    go_wp2_with (fail)
    go_roundw
    case rel => exact ⟨k + 1,by omega,by go_num,by rw [hp2.out],trivial⟩
    case measure => simp [intOf]; omega
  ·obtain rfl:k = n:=by omega
   go_wp2_with (fail)
   go_ret
   exact ⟨rfl,rfl⟩
end Go.Proofs.YtflmllablfjfeaaDoor
