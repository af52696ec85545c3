import Derived.Test.YtflmllablfjfeaaDoorFry
import Derived.Deep.QuietTactic
import Derived.BigQuiet
namespace Go.Proofs.YtflmllablfjfeaaDoor
open Go.RowKit Go.HK Go.FR Lib
set_option linter.unusedVariables false
set_option linter.unusedSimpArgs false
set_option linter.unusedSectionVars false
theorem bl_drN {B:Nat} {a w:World} (h:Below B a w) (n:Nat):Below B a (w.drewN n):=⟨h.os,h.tape,h.output,h.size,h.block⟩
set_option maxRecDepth 100000 in
set_option maxHeartbeats 2000000 in
theorem same_call (w:World) (s t:SL) (xs ys:List Int) {S T:Nat -> Prop} (hs:IsZs S w s xs) (ht:IsZs T w t ys) (hl:xs.length <= 4611686018427387904) :
  Calls Tryd.prog 27 #[s.v,t.v] w (RetW w (decide (xs = ys))):=by
 obtain ⟨sa,n,sc⟩:=s
 obtain ⟨ta,m,tc⟩:=t
 have h1:=hs.1
 have h2:=ht.1
 simp only [SL.v] at h1 h2 ⊢
 by_cases hnm:n = m
 ·have HS:=hid hs
  have HT:=hid ht
  have H1:=hid h1
  have H2:Hid (n = ys.length):=hid (by rw [hnm]; exact h2)
  subst hnm
  obtain ⟨rb,hrb⟩:∃ rb,rb = decide (xs = ys):=⟨_,rfl⟩
  rw [<- hrb]
  have HRB:=hid hrb
  have hn63:n <= 4611686018427387904:=by omega
  clear hs ht h1 h2 hrb hl
  go_enter Tryd.func27,Tryd.ntmps27
  go_wp2_with (fail)
  go_loopw [5] (fun i wr => ∃ k d:Nat,k <= n /\ i = .int .i64 k /\ xs.take k = ys.take k /\ wr = w.drewN d) (fun i _ => n - (intOf i).toNat)
  case atStart => exact ⟨0,0,Nat.zero_le _,rfl,rfl,rfl⟩
  case round =>
   obtain ⟨k,d,hkn,rfl,htk,rfl⟩:=hrel
   have HTK:=hid htk
   clear htk
   by_cases hlt:k < n
   ·obtain ⟨x,hx⟩:∃ x,xs[k]? = some x:=⟨_,List.getElem?_eq_getElem (by have:=H1.out; omega)⟩
    obtain ⟨y,hy⟩:∃ y,ys[k]? = some y:=⟨_,List.getElem?_eq_getElem (by have:=H2.out; omega)⟩
    obtain ⟨g,o,rfl,_,cx⟩:=HS.out.2 k x hx
    obtain ⟨g',o',rfl,_,cy⟩:=HT.out.2 k y hy
    have b0:(0:Int) <= (k:Int):=by omega
    have b1:(k:Int) < (n:Int):=by omega
    by_cases hxy:x = y
    ·have HN:Hid (xs.take (k + 1) = ys.take (k + 1)):=hid (by rw [take_one hx,take_one hy,HTK.out,hxy])
     have e1:(x != y) = false:=by simpa using hxy
     clear hx hy hxy
     go_wp2_with (fail)
     go_quiet (fail)
     go_wp2_with (fail)
     go_roundw
     case rel => exact ⟨k + 1,d + nq,by omega,by go_num,HN.out,rfl⟩
     case measure => simp [intOf]; omega
    ·have HN:Hid (rb = false):=hid (by
      rw [HRB.out]
      exact decide_eq_false fun e => hxy (by rw [e,hy] at hx; exact (Option.some.inj hx).symm))
     have e1:(x != y) = true:=by simpa using hxy
     clear hx hy hxy
     go_wp2_with (fail)
     go_quiet (fail)
     go_wp2_with (fail)
     go_ret
     exact ⟨by rw [HN.out]; rfl,bl_drN (bl_drN (Below.refl _ _) _) _⟩
   ·have HN:Hid (rb = true):=hid (by
     rw [HRB.out]
     have:=HTK.out
     rw [List.take_of_length_le (by have:=H1.out; omega),List.take_of_length_le (by have:=H2.out; omega)] at this
     exact decide_eq_true this)
    go_wp2_with (fail)
    go_ret
    exact ⟨by rw [HN.out]; rfl,bl_drN (Below.refl _ _) _⟩
 ·have hne:decide (xs = ys) = false:=decide_eq_false fun e => hnm (by rw [h1,h2,e])
  rw [hne]
  have e1:((n:Int) != (m:Int)) = true:=by simp; omega
  have e2:¬ (n:Int) = (m:Int):=by omega
  clear hs ht h1 h2 hne
  go_enter Tryd.func27,Tryd.ntmps27
  go_wp2_with (fail)
  go_ret
  exact ⟨rfl,Below.refl _ _⟩
end Go.Proofs.YtflmllablfjfeaaDoor
