import Derived.Test.YtflmllablfjfeaaDoorFrc
import Derived.Test.YtflmllablfjfeaaDoorEach
namespace Go.Proofs.YtflmllablfjfeaaDoor
open Go.RowKit Go.HK Go.FR Lib
set_option linter.unusedVariables false
set_option linter.unusedSimpArgs false
set_option linter.unusedSectionVars false
def IsZ (W:World) (g o:Nat) (xs:List Int):Prop:=∀ (i:Nat) (x:Int),xs[i]? = some x -> W.cell? ⟨g,o + i,none⟩ = some (.int .i64 x)
theorem IsZ.below {W W':World} {g o:Nat} {xs:List Int} (h:IsZ W g o xs) (hb:Below W.heap.size W W'):IsZ W' g o xs :=
 fun i x hx => (hb.cell (p:=⟨g,o + i,none⟩) (World.block_lt_of_cell? W _ (h i x hx))).trans (h i x hx)
theorem IsR.z {W:World} {g o:Nat} {xs:List Nat} (h:IsR W g o xs):IsZ W g o (xs.map fun x:Nat => (x:Int)):=fun i x hx => by
 rw [List.getElem?_map] at hx
 obtain ⟨y,hy,rfl⟩:=Option.map_eq_some_iff.1 hx
 exact h i y hy
theorem IsZ.r {W:World} {g o:Nat} {xs:List Nat} (h:IsZ W g o (xs.map fun x:Nat => (x:Int))):IsR W g o xs:=fun i x hx => h i x (by rw [List.getElem?_map,hx]; rfl)
def relK (n:Nat) (xs:List Int):Nat -> Bool
 | 0 => true
 | k + 1 => relK n xs k && (decide (0 <= xs.getD k 0) && decide (xs.getD k 0 < ((2 ^ n:Nat):Int)))
def relB (xs:List Int):Bool:=decide (1 <= xs.length) && decide (xs.length <= 4) && relK xs.length xs xs.length
theorem relK_get {n:Nat} {xs:List Int}:∀ {k i:Nat},relK n xs k = true -> i < k -> 0 <= xs.getD i 0 /\ xs.getD i 0 < ((2 ^ n:Nat):Int)
 | 0,i,_,h => by omega
 | k + 1,i,h,hi => by
  unfold relK at h
  simp only [Bool.and_eq_true,decide_eq_true_iff] at h
  by_cases e:i = k
  ·subst e; exact h.2
  ·exact relK_get h.1 (by omega)
theorem getD_getI {xs:List Int} {w:Nat} {s:Int} (h:xs[w]? = some s):xs.getD w 0 = s:=by rw [List.getD_eq_getElem?_getD,h]; rfl
theorem relB_frok {xs:List Int} (h:relB xs = true):∃ rel:List Nat,xs = rel.map (fun x:Nat => (x:Int)) /\ FrOk rel /\ 1 <= rel.length:=by
 unfold relB at h
 simp only [Bool.and_eq_true,decide_eq_true_iff] at h
 refine ⟨xs.map Int.toNat,?_,⟨by rw [List.length_map]; exact h.1.2,fun w s hs => ?_⟩,by rw [List.length_map]; exact h.1.1⟩
 ·apply List.ext_getElem?
  intro i
  rw [List.getElem?_map,List.getElem?_map]
  rcases e:xs[i]? with _ | x
  ·rfl
  ·have hi:=(List.getElem?_eq_some_iff.1 e).1
   have:=(relK_get h.2 hi).1
   rw [getD_getI e] at this
   simp only [Option.map_some]
   rw [Int.toNat_of_nonneg this]
 ·rw [List.length_map]
  rw [List.getElem?_map] at hs
  obtain ⟨x,hx,rfl⟩:=Option.map_eq_some_iff.1 hs
  have hi:=(List.getElem?_eq_some_iff.1 hx).1
  have:=relK_get h.2 hi
  rw [getD_getI hx] at this
  omega
theorem frok_relB {rel:List Nat} (h:FrOk rel) (h1:1 <= rel.length):relB (rel.map fun x:Nat => (x:Int)) = true:=by
 unfold relB
 rw [List.length_map]
 have h4:=h.len
 have key:∀ k,k <= rel.length -> relK rel.length (rel.map fun x:Nat => (x:Int)) k = true:=by
  intro k
  induction k with
  | zero => intro _; rfl
  | succ k ih =>
   intro hk
   have hx:rel[k]? = some rel[k]:=List.getElem?_eq_getElem (by omega)
   have hl:=h.lt k _ hx
   unfold relK
   rw [ih (by omega),getD_getI (s:=(rel[k]:Int)) (by rw [List.getElem?_map,hx]; rfl)]
   simp only [Bool.true_and,Bool.and_eq_true,decide_eq_true_iff]
   omega
 rw [key _ (Nat.le_refl _)]
 simp [h1,h4]
set_option maxRecDepth 100000 in
set_option maxHeartbeats 1000000 in
theorem relation_call (w:World) (g o n c:Nat) (xs:List Int) (hZ:IsZ w g o xs) (hn:xs.length = n):Calls Tryd.prog 41 #[.slice (some ⟨g,o,none⟩) n c] w fun e w' => e = .returned (.bool (relB xs)) /\ w' = w:=by
 by_cases h1:1 <= n
 ·by_cases h4:n <= 4
  ·have hB:relB xs = relK n xs n:=by unfold relB; rw [hn]; simp [h1,h4]
   rw [hB]
   have HN:=hid hn
   have HZ:=hid hZ
   have f3:=shl_wrap (k:=n) (by omega)
   obtain ⟨N,hN⟩:∃ N:Nat,N = 1 <<< n:=⟨_,rfl⟩
   rw [<- hN] at f3
   have HNN:Hid ((2 ^ n:Nat) = N):=hid (by rw [hN,Nat.one_shiftLeft])
   have b1:¬ (n:Int) < 1:=by omega
   have b2:¬ (4:Int) < (n:Int):=by omega
   have b3:(0:Int) <= (n:Int):=by omega
   clear hn hZ hB hN
   go_enter Tryd.func41,Tryd.ntmps41
   go_wp2_with (fail)
   go_loopw [15] (fun i wr => ∃ k:Nat,k <= n /\ i = .int .i64 k /\ relK n xs k = true /\ wr = w) (fun i _ => n - (intOf i).toNat)
   case atStart => exact ⟨0,by omega,rfl,rfl,rfl⟩
   case round =>
    obtain ⟨k,hk,rfl,hp,rfl⟩:=hrel
    by_cases hkn:(k:Int) < (n:Int)
    ·have b0:(0:Int) <= (k:Int):=by omega
     obtain ⟨x,hx⟩:∃ x,xs[k]? = some x:=⟨_,List.getElem?_eq_getElem (by have:=HN.out; omega)⟩
     have hc:=HZ.out k x hx
     have hgx:=getD_getI hx
     have HP:=hid hp
     have HGX:=hid hgx
     clear hp hgx hx
     have hno:(x < 0 ∨ (N:Int) <= x) -> relK n xs n = false:=fun h => by
      rcases e2:relK n xs n with _ | _
      ·rfl
      ·have h3:=relK_get e2 (show k < n by omega)
       rw [HGX.out,HNN.out] at h3
       omega
     by_cases h5:x < 0
     ·have HNO:=hid (hno (.inl h5))
      clear hno
      go_wp2_with (fail)
      go_ret
      exact ⟨by rw [HNO.out]; rfl,rfl⟩
     ·by_cases h6:(N:Int) <= x
      ·have HNO:=hid (hno (.inr h6))
       clear hno
       go_wp2_with (fail)
       go_ret
       exact ⟨by rw [HNO.out]; rfl,rfl⟩
      ·clear hno
       have hp2:Hid (relK n xs (k + 1) = true):=hid (by
        unfold relK; rw [HP.out,HGX.out,HNN.out]
        simp only [Bool.true_and,Bool.and_eq_true,decide_eq_true_iff]; omega)
       go_wp2_with (fail)
       go_roundw
       case rel => exact ⟨k + 1,by omega,by go_num,hp2.out,trivial⟩
       case measure => simp [intOf]; omega
    ·obtain rfl:k = n:=by omega
     go_wp2_with (fail)
     go_ret
     exact ⟨rfl,rfl⟩
  ·have hB:relB xs = false:=by unfold relB; rw [hn]; simp [h4]
   rw [hB]
   have b1:¬ (n:Int) < 1:=by omega
   have b2:(4:Int) < (n:Int):=by omega
   go_enter Tryd.func41,Tryd.ntmps41
   go_wp2_with (fail)
   go_ret
   exact ⟨rfl,rfl⟩
 ·have hB:relB xs = false:=by unfold relB; rw [hn]; simp [h1]
  rw [hB]
  have b1:(n:Int) < 1:=by omega
  go_enter Tryd.func41,Tryd.ntmps41
  go_wp2_with (fail)
  go_ret
  exact ⟨rfl,rfl⟩
def lackAll (m:Nat) (rel:List Nat):Nat -> Bool
 | 0 => true
 | k + 1 => lackAll m rel k && decide (lackS m rel k = 0)
theorem lackAll_get {m:Nat} {rel:List Nat}:∀ {k i:Nat},lackAll m rel k = true -> i < k -> lackS m rel i = 0
 | 0,i,_,h => by omega
 | k + 1,i,h,hi => by
  unfold lackAll at h
  simp only [Bool.and_eq_true,decide_eq_true_iff] at h
  by_cases e:i = k
  ·subst e; exact h.2
  ·exact lackAll_get h.1 (by omega)
def antiR (rel:List Nat) (w:Nat):Nat -> Bool
 | 0 => true
 | k + 1 => antiR rel w k && !((rel.getD w 0).testBit k && (rel.getD k 0).testBit w)
def antiK (rel:List Nat):Nat -> Bool
 | 0 => true
 | k + 1 => antiK rel k && antiR rel k k
theorem antiR_get {rel:List Nat} {w:Nat}:∀ {k i:Nat},antiR rel w k = true -> i < k -> ((rel.getD w 0).testBit i && (rel.getD i 0).testBit w) = false
 | 0,i,_,h => by omega
 | k + 1,i,h,hi => by
  unfold antiR at h
  rw [Bool.and_eq_true] at h
  by_cases e:i = k
  ·subst e; have:=h.2; rw [Bool.not_eq_true'] at this; exact this
  ·exact antiR_get h.1 (by omega)
theorem antiK_get {rel:List Nat}:∀ {k i:Nat},antiK rel k = true -> i < k -> antiR rel i i = true
 | 0,i,_,h => by omega
 | k + 1,i,h,hi => by
  unfold antiK at h
  rw [Bool.and_eq_true] at h
  by_cases e:i = k
  ·subst e; exact h.2
  ·exact antiK_get h.1 (by omega)
def suitsB (force:Bool) (m:Nat) (rel:List Nat) (l:Nat):Bool :=
 if force = true then decide (rel.getD 0 0 = 2 ^ rel.length - 1) && antiK rel (l + 1) && lackAll (m ||| 3) rel (l + 1) else lackAll m rel (l + 1)
def RetB (w:World) (b:Bool) (e:Ending) (w':World):Prop:=e = .returned (.bool b) /\ Below w.heap.size w w'
set_option maxRecDepth 100000 in
set_option maxHeartbeats 2000000 in
theorem suits_modal (w:World) (g o n c:Nat) (rel:List Nat) (hR:IsR w g o rel) (hn:rel.length = n) (hok:FrOk rel) (kind m l:Nat) (hkd:¬ kind = 3) (hm:m < 256) (hl:l < n) :
  Calls Tryd.prog 42 #[.int .u8 (kind:Int),.int .u8 (m:Int),.slice (some ⟨g,o,none⟩) n c,.int .i64 (l:Int)] w (RetB w (lackAll m rel (l + 1))):=by
 have hk3:((kind:Int) == 3) = false:=by simp; omega
 have hk4:¬ (kind:Int) = 3:=by omega
 have HN:=hid hn
 have HR:=hid hR
 have HOK:=hid (show FrOk rel /\ l < n from ⟨hok,hl⟩)
 have hl3:l <= 3:=by have:=hok.len; omega
 clear hn hR hok hl
 go_enter Tryd.func42,Tryd.ntmps42
 go_wp2_with (fail)
 go_loopw [11] (fun i wr => ∃ k:Nat,k <= l + 1 /\ i = .int .i64 k /\ lackAll m rel k = true /\ Below w.heap.size w wr) (fun i _ => l + 1 - (intOf i).toNat)
 case atStart => exact ⟨0,by omega,rfl,rfl,Below.refl _ _⟩
 case round =>
  obtain ⟨k,hk,rfl,hp,hB⟩:=hrel
  have HB:=hid hB
  have hRr:=HR.out.below hB
  have hlt:=HOK.out.2
  clear hB
  by_cases hkl:(k:Int) <= (l:Int)
  ·have b0:(0:Int) <= (k:Int):=by omega
   have hcl:=lacking_call wr g o n c rel hRr HN.out HOK.out.1 m (by exact hm) k (by omega)
   have HP:=hid hp
   obtain ⟨y,hy⟩:∃ y,y = lackS m rel k:=⟨_,rfl⟩
   unfold RetN at hcl
   rw [<- hy] at hcl
   have HCL:=hid hcl
   have HY:=hid hy
   clear hcl hy hp hRr
   by_cases hz:y = 0
   ·subst hz
    go_wp2_with (go_at_call 47; ((with_reducible refine HCL.out.mono ?_); rintro e w1 ⟨rfl,hB1⟩; have HB1:=hid hB1; clear hB1))
    go_roundw
    case rel => exact ⟨k + 1,by omega,by go_num,by unfold lackAll; rw [HP.out,<- HY.out]; rfl,HB.out.trans (HB1.out.mono HB.out.size)⟩
    case measure => simp [intOf]; omega
   ·have hyz:¬ (y:Int) = 0:=by omega
    have hno:Hid (lackAll m rel (l + 1) = false):=hid (by
     rcases e2:lackAll m rel (l + 1) with _ | _
     ·rfl
     ·have:=lackAll_get e2 (show k < l + 1 by omega)
      rw [<- HY.out] at this
      exact absurd this hz)
    go_wp2_with (go_at_call 47; ((with_reducible refine HCL.out.mono ?_); rintro e w1 ⟨rfl,hB1⟩; have HB1:=hid hB1; clear hB1))
    go_ret
    exact ⟨by rw [hno.out]; rfl,HB.out.trans (HB1.out.mono HB.out.size)⟩
  ·obtain rfl:k = l + 1:=by omega
   have HP:=hid hp
   clear hp
   go_wp2_with (fail)
   go_ret
   exact ⟨by rw [HP.out]; rfl,HB.out⟩
set_option maxRecDepth 100000 in
set_option maxHeartbeats 4000000 in
theorem suits_force (w:World) (g o n c:Nat) (rel:List Nat) (hR:IsR w g o rel) (hn:rel.length = n) (hok:FrOk rel) (m l:Nat) (hm:m < 256) (hl:l < n) :
  Calls Tryd.prog 42 #[.int .u8 3,.int .u8 (m:Int),.slice (some ⟨g,o,none⟩) n c,.int .i64 (l:Int)] w (RetB w (suitsB true m rel l)):=by
 obtain ⟨x0,hx0⟩:∃ x,rel[0]? = some x:=⟨_,List.getElem?_eq_getElem (by omega)⟩
 have hc0:=hR 0 x0 hx0
 have hg0:=getD_get hx0
 have h04:x0 < 16:=by rw [<- hg0]; exact hok.get 0
 rw [Nat.add_zero] at hc0
 have h44:n <= 4:=by have:=hok.len; omega
 have f3:=shl_wrap (k:=n) (by omega)
 obtain ⟨N,hN⟩:∃ N:Nat,N = 1 <<< n:=⟨_,rfl⟩
 rw [<- hN] at f3
 have hNe:(2 ^ n:Nat) = N:=by rw [hN,Nat.one_shiftLeft]
 have hN1:1 <= N:=by rw [<- hNe]; exact Nat.two_pow_pos n
 have hN16:N <= 16:=by rw [<- hNe]; exact pow_le4 (by have:=hok.len; omega)
 have bn:(0:Int) < (n:Int):=by omega
 have hS:suitsB true m rel l = (decide (x0 = N - 1) && antiK rel (l + 1) && lackAll (m ||| 3) rel (l + 1)):=by
  unfold suitsB
  rw [if_pos rfl,hg0,hn,hNe]
 rw [hS]
 have HN:=hid hn
 have HR:=hid hR
 have HOK:=hid (show FrOk rel /\ l < n from ⟨hok,hl⟩)
 have hl3:l <= 3:=by have:=hok.len; omega
 have f4:IntKind.i64.wrap ((N:Int) - 1) = (N:Int) - 1:=IntWalk.i64_in _ (by omega)
 have hmin:min n 64 = n:=by omega
 have g3:wrap64 (2 ^ n) = (N:Int):=(IntWalk.i64_left _).symm.trans f3
 have g4:wrap64 ((N:Int) - 1) = (N:Int) - 1:=(IntWalk.i64_left _).symm.trans f4
 clear hn hR hok hl hx0 hg0 hN hNe hS
 by_cases hx:x0 = N - 1
 ·have e1:((x0:Int) != (N:Int) - 1) = false:=by simp; omega
  have e2:(x0:Int) = (N:Int) - 1:=by omega
  have HX:=hid hx
  clear hx e2
  have f5:=u8_or_nat m 3 hm (by omega)
  rw [show ((3:Nat):Int) = 3 from rfl] at f5
  obtain ⟨mm,hmm⟩:∃ mm:Nat,mm = m ||| 3:=⟨_,rfl⟩
  have hmm8:mm < 256:=by rw [hmm]; exact Nat.or_lt_two_pow (n:=8) (by omega) (by omega)
  rw [<- hmm] at f5 ⊢
  have HMM:=hid hmm
  clear hmm
  have hd:decide (x0 = N - 1) = true:=decide_eq_true HX.out
  rw [hd,Bool.true_and]
  clear hd
  go_enter Tryd.func42,Tryd.ntmps42
  go_upto_region 2 with (fail)
  go_region
  go_upto_region 5 with (fail)
  obtain ⟨w0,hw0⟩:∃ w0,w0 = w.drew:=⟨_,rfl⟩
  have HB0:Hid (Below w.heap.size w w0):=hid (by rw [hw0]; exact (Below.refl _ w).drew)
  rw [<- hw0]
  clear hw0
  go_loopw [9] (fun i wr => ∃ k:Nat,k <= l + 1 /\ i = .int .i64 k /\ antiK rel k = true /\ wr = w0) (fun i _ => l + 1 - (intOf i).toNat)
  case atStart => exact ⟨0,by omega,rfl,rfl,rfl⟩
  case round =>
   obtain ⟨k,hk,rfl,hp,rfl⟩:=hrel
   have hRr:=HR.out.below HB0.out
   have hlt:=HOK.out.2
   have HP:=hid hp
   clear hp
   have b0:(0:Int) <= (k:Int):=by omega
   by_cases hkl:(k:Int) <= (l:Int)
   ·obtain ⟨y,hy⟩:∃ y,rel[k]? = some y:=⟨_,List.getElem?_eq_getElem (by have:=HN.out; omega)⟩
    have hcy:=hRr k y hy
    have hgy:=getD_get hy
    have hy16:y < 16:=by rw [<- hgy]; exact HOK.out.1.get k
    have HGY:=hid hgy
    have HRr:=hid hRr
    have bkn:(k:Int) < (n:Int):=by omega
    clear hRr hy hgy
    go_upto_region 8 with (fail)
    go_loopw [10] (fun i wr2 => ∃ u:Nat,u <= k /\ i = .int .i64 u /\ antiR rel k u = true /\ wr2 = wr) (fun i _ => k - (intOf i).toNat)
    case atStart => exact ⟨0,by omega,rfl,rfl,rfl⟩
    case round =>
     obtain ⟨u,hu,rfl,hq,hwe⟩:=hrel
     subst hwe
     have b1:(0:Int) <= (u:Int):=by omega
     by_cases huk:(u:Int) < (k:Int)
     ·obtain ⟨x,hx⟩:∃ x,rel[u]? = some x:=⟨_,List.getElem?_eq_getElem (by have:=HN.out; omega)⟩
      have hcx:=HRr.out u x hx
      have hgx:=getD_get hx
      have hx16:x < 16:=by rw [<- hgx]; exact HOK.out.1.get u
      have HGX:=hid hgx
      have HQ:=hid hq
      have bun:(u:Int) < (n:Int):=by omega
      clear hx hgx hq
      rcases e1:y.testBit u with _ | _
      ·have f1:=bit0 (by omega) e1
       have hq2:Hid (antiR rel k (u + 1) = true):=hid (by unfold antiR; rw [HQ.out,HGY.out,e1]; rfl)
       clear e1
       go_wp2_with (fail)
       go_roundw
       case rel => exact ⟨u + 1,by omega,by go_num,hq2.out,trivial⟩
       case measure => simp [intOf]; omega
      ·have f1:=bit1 (by omega) e1
       rcases e2:x.testBit k with _ | _
       ·have f2:=bit0 (by omega) e2
        have hq2:Hid (antiR rel k (u + 1) = true):=hid (by unfold antiR; rw [HQ.out,HGY.out,e1,HGX.out,e2]; rfl)
        clear e1 e2
        go_wp2_with (fail)
        go_roundw
        case rel => exact ⟨u + 1,by omega,by go_num,hq2.out,trivial⟩
        case measure => simp [intOf]; omega
       ·have f2:=bit1 (by omega) e2
        have hno:Hid (antiK rel (l + 1) = false):=hid (by
         rcases e3:antiK rel (l + 1) with _ | _
         ·rfl
         ·have h4:=antiR_get (antiK_get e3 (show k < l + 1 by omega)) (show u < k by omega)
          rw [HGY.out,e1,HGX.out,e2] at h4
          cases h4)
        clear e1 e2
        go_wp2_with (fail)
        go_ret
        exact ⟨by rw [hno.out]; rfl,HB0.out⟩
     ·obtain rfl:u = k:=by omega
      have HQ:=hid hq
      clear hq
      go_wp2_with (fail)
      go_roundw
      case rel => exact ⟨u + 1,by omega,by go_num,by unfold antiK; rw [HP.out,HQ.out]; rfl,trivial⟩
      case measure => simp [intOf]; omega
   ·obtain rfl:k = l + 1:=by omega
    have hA:Hid (antiK rel (l + 1) = true):=HP
    clear HP
    obtain ⟨w9,hw9⟩:∃ w9,w9 = wr:=⟨_,rfl⟩
    have HB9:Hid (Below w.heap.size w w9):=hid (by rw [hw9]; exact HB0.out)
    subst hw9
    go_wp2_with (fail)
    go_loopw [11] (fun i wr => ∃ k:Nat,k <= l + 1 /\ i = .int .i64 k /\ lackAll mm rel k = true /\ Below w.heap.size w wr) (fun i _ => l + 1 - (intOf i).toNat)
    case atStart => exact ⟨0,by omega,rfl,rfl,HB9.out⟩
    case round =>
     obtain ⟨k,hk,rfl,hp,hB⟩:=hrel
     have HB:=hid hB
     have hRr:=HR.out.below hB
     have hlt:=HOK.out.2
     clear hB
     by_cases hkl:(k:Int) <= (l:Int)
     ·have b0:(0:Int) <= (k:Int):=by omega
      have hcl:=lacking_call wr g o n c rel hRr HN.out HOK.out.1 mm (by exact hmm8) k (by omega)
      have HP:=hid hp
      obtain ⟨y,hy⟩:∃ y,y = lackS mm rel k:=⟨_,rfl⟩
      unfold RetN at hcl
      rw [<- hy] at hcl
      have HCL:=hid hcl
      have HY:=hid hy
      clear hcl hy hp hRr
      by_cases hz:y = 0
      ·subst hz
       go_wp2_with (go_at_call 47; ((with_reducible refine HCL.out.mono ?_); rintro e w1 ⟨rfl,hB1⟩; have HB1:=hid hB1; clear hB1))
       go_roundw
       case rel => exact ⟨k + 1,by omega,by go_num,by unfold lackAll; rw [HP.out,<- HY.out]; rfl,HB.out.trans (HB1.out.mono HB.out.size)⟩
       case measure => simp [intOf]; omega
      ·have hyz:¬ (y:Int) = 0:=by omega
       have hno:Hid (lackAll mm rel (l + 1) = false):=hid (by
        rcases e2:lackAll mm rel (l + 1) with _ | _
        ·rfl
        ·have:=lackAll_get e2 (show k < l + 1 by omega)
         rw [<- HY.out] at this
         exact absurd this hz)
       go_wp2_with (go_at_call 47; ((with_reducible refine HCL.out.mono ?_); rintro e w1 ⟨rfl,hB1⟩; have HB1:=hid hB1; clear hB1))
       go_ret
       exact ⟨by rw [hno.out,hA.out]; rfl,HB.out.trans (HB1.out.mono HB.out.size)⟩
     ·obtain rfl:k = l + 1:=by omega
      have HP:=hid hp
      clear hp
      go_wp2_with (fail)
      go_ret
      exact ⟨by rw [HP.out,hA.out]; rfl,HB.out⟩
 ·have hd:decide (x0 = N - 1) = false:=decide_eq_false hx
  rw [hd]
  have e1:((x0:Int) != (N:Int) - 1) = true:=by simp; omega
  have e2:¬ (x0:Int) = (N:Int) - 1:=by omega
  go_enter Tryd.func42,Tryd.ntmps42
  go_upto_region 2 with (fail)
  go_region
  go_wp2_with (fail)
  go_ret
  exact ⟨rfl,(Below.refl _ w).drew⟩
end Go.Proofs.YtflmllablfjfeaaDoor
