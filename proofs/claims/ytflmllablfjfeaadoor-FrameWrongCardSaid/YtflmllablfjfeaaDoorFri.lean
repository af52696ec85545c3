import Derived.Test.YtflmllablfjfeaaDoorFrg
import Derived.Lib.BufferMore
namespace Go.Proofs.YtflmllablfjfeaaDoor
open Go.RowKit Go.HK Go.FR Lib
set_option linter.unusedVariables false
set_option linter.unusedSimpArgs false
set_option linter.unusedSectionVars false
theorem empty_row (w:World) (e size:Nat):(w.alloc (.cells #[] e)).ownsRow w.heap.size e size (.slice (some ⟨w.heap.size,0,none⟩) 0 0) 0 [] :=
 ⟨by simp,.inr ⟨w.heap.size,0,#[],rfl,Nat.le_refl _,HK.blk_new _ _,Nat.le_refl _,by simp [maxLen],by simp,by simp⟩⟩
theorem IsR.addr {w:World} {g o:Nat} {xs:List Nat} (h:IsR w g o xs):∀ j u,(ints xs)[j]? = some u -> w.cell? ((⟨g,o,none⟩:Addr).add j) = some u:=by
 intro j u hj
 rw [ints,List.getElem?_map] at hj
 obtain ⟨x,hx,rfl⟩:=Option.map_eq_some_iff.1 hj
 have:=h j x hx
 unfold Addr.add
 by_cases h0:j = 0
 ·subst h0; simpa using this
 ·simpa [h0] using this
theorem isR_own {w:World} {b g c n:Nat} {xs:List Nat} (h:w.ownsRow b 3 1 (.slice (some ⟨g,0,none⟩) n c) n (ints xs)):IsR w g 0 xs:=fun i x hx => by
 have hlt:=(List.getElem?_eq_some_iff.1 hx).1
 have hl:=h.1
 rw [ints_len] at hl
 rw [Nat.zero_add,h.cellAt i (by omega),ints,List.getElem?_map,hx]; rfl
set_option maxRecDepth 100000 in
set_option maxHeartbeats 1000000 in
theorem clone_call (w:World) (g o n c:Nat) (xs:List Nat) (hR:IsR w g o xs) (hn:xs.length = n) (hle:n <= 10000) :
  Calls Tryd.prog 46 #[.slice (some ⟨g,o,none⟩) n c] w (RetRow w xs):=by
 have HR:=hid hR
 have HN:=hid hn
 clear hR hn
 have he:(binOp .eql 25 (.slice (some ⟨g,o,none⟩) n c) (.slice none 0 0)).run Tryd.prog w = .ok (.bool false) w:=Lib.run_eql_slice_nil w 25 3 (some ⟨g,o,none⟩) n c 0 0 Tryd.underlying25
 go_enter Tryd.func46,Tryd.ntmps46
 go_wp2_with (
  at_builtin
  refine wpList_app_any rfl elem25 _ _ rfl (.slice (some ⟨w.heap.size,0,none⟩) 0 0) w.heap.size 0 [] rfl (empty_row w 3 1) ⟨g,o,none⟩ n c (ints xs) rfl (by rw [ints_len,HN.out]; omega) (IsR.addr (HR.out.below ((Below.refl w.heap.size w).alloc (Nat.le_refl _) _))) (ints_one _) (by simp only [maxLen]; omega) (by omega) (by simp) ?_
  intro v3 w3 hown hgrow hnil hat)
 go_ret
 rw [Nat.zero_add,List.nil_append] at hown
 exact ⟨v3,rfl,((Below.refl w.heap.size w).alloc (Nat.le_refl _) (.cells #[] 3)).grown hgrow (by simp) (fun k hk => by have h2:w.heap.size = k:=Option.some.inj hk; omega),by rw [HN.out]; exact hown⟩
theorem lackAll_of {m:Nat} {rel:List Nat}:∀ {k:Nat},(∀ i,i < k -> lackS m rel i = 0) -> lackAll m rel k = true
 | 0,_ => rfl
 | k + 1,h => by unfold lackAll; rw [lackAll_of fun i hi => h i (by omega),h k (by omega)]; rfl
theorem lackAll_iff {c:Nat} {rel:List Nat} (h:FrOk rel):lackAll c rel rel.length = true ↔ FitsP c rel:=by
 constructor
 ·intro hl w hw; exact (lack_zero h hw).1 (lackAll_get hl hw)
 ·intro hf; exact lackAll_of fun i hi => (lack_zero h hi).2 (hf i hi)
def bitOf:Value -> Nat
 | .bool true => 1
 | _ => 0
def rowSum (w:World) (g:Nat):Nat -> Nat
 | 0 => 0
 | k + 1 => rowSum w g k + (intOf ((w.cell? ⟨g,k,none⟩).getD undef)).toNat
theorem rowSum_take {w:World} {g:Nat} {xs:List Nat} (h:IsR w g 0 xs):∀ k,k <= xs.length -> rowSum w g k = (xs.take k).sum
 | 0,_ => rfl
 | k + 1,hk => by
  have hx:xs[k]? = some xs[k]:=List.getElem?_eq_getElem (by omega)
  have hc:=h k _ hx
  rw [Nat.zero_add] at hc
  unfold rowSum
  rw [rowSum_take h k (by omega),hc,List.take_succ_eq_append_getElem (by omega),List.sum_append]
  simp [intOf]
theorem rowSum_own {w:World} {g:Nat} {xs:List Nat} (h:IsR w g 0 xs):rowSum w g xs.length = xs.sum:=by
 rw [rowSum_take h _ (Nat.le_refl _),List.take_length]
def ClI (w:World) (c:Nat) (rel:List Nat) (g cp n:Nat) (cur:List Nat) (wr:World):Prop :=
 CloI c rel cur /\ wr.ownsRow w.heap.size 3 1 (.slice (some ⟨g,0,none⟩) n cp) n (ints cur) /\ Below w.heap.size w wr
def RetClo (w:World) (c:Nat) (rel:List Nat) (e:Ending) (w':World):Prop:=∃ out v,e = .returned (.tuple #[v,.int .i64 0]) /\ CloP c rel out /\ w'.ownsRow w.heap.size 3 1 v out.length (ints out) /\ Below w.heap.size w w'
theorem ints_set (xs:List Nat) (i v:Nat):ints (xs.set i v) = (ints xs).set i (.int .i64 (v:Int)):=by simp [ints,List.map_set]
set_option maxRecDepth 100000 in
set_option maxHeartbeats 4000000 in
theorem close_yes (w:World) (g0 o n cp0:Nat) (rel:List Nat) (hR:IsR w g0 o rel) (hn:rel.length = n) (hok:FrOk rel) (h1:1 <= n) (c:Nat) (hc:c <= 7) :
  Calls Tryd.prog 22 #[.slice (some ⟨g0,o,none⟩) n cp0,.int .u8 (c:Int)] w (RetClo w c rel):=by
 have hrl:=relation_call w g0 o n cp0 _ hR.z (by rw [List.length_map]; exact hn)
 rw [frok_relB hok (by omega)] at hrl
 have h4:n <= 4:=by have:=hok.len; omega
 have hcl:=clone_call w g0 o n cp0 rel hR hn (by omega)
 unfold RetRow at hcl
 have HRL:=hid hrl
 have HCL:=hid hcl
 have HOK:=hid hok
 have HN:=hid hn
 have c1:¬ (7:Int) < (c:Int):=by omega
 clear hrl hcl hR hok hn
 go_enter Tryd.func22,Tryd.ntmps22
 go_upto_region 4 with (first
  | (go_at_call 41; ((with_reducible refine HRL.out.mono ?_); rintro e w1 ⟨rfl,hw1⟩; have hw1:=hw1.symm; subst hw1))
  | (go_at_call 46; ((with_reducible refine HCL.out.mono ?_); rintro e w2 ⟨v,rfl,hB2,hv⟩)))
 rw [HN.out] at hv
 obtain ⟨g,cp,rfl,hg,hgl⟩:=own_form9 hv (by omega)
 have HI0:Hid (ClI w c rel g cp n rel w2):=hid ⟨CloI.start HOK.out,hv,hB2⟩
 clear hv hB2 hg hgl
 go_wp2_with (fail)
 go_loopw [7] (fun ch wr => ∃ (b:Bool) (cur:List Nat),ch = .bool b /\ ClI w c rel g cp n cur wr /\ (b = false -> FitsP c cur)) (fun ch wr => 2 * (64 - rowSum wr g n) + bitOf ch)
 case atStart => exact ⟨true,rel,rfl,HI0.out,fun h => by cases h⟩
 case round =>
  obtain ⟨b,cur0,rfl,hI,hf⟩:=hrel
  have hl0:cur0.length = n:=by have:=hI.1.len; rw [HN.out] at this; exact this
  cases b
  ·have HF:=hid (hf rfl)
   have HI:=hid hI
   have HL0:=hid hl0
   clear hI hf hl0
   go_wp2_with (fail)
   go_ret2
   exact ⟨cur0,_,rfl,⟨HI.out.1,HF.out⟩,by rw [HL0.out]; exact HI.out.2.1,HI.out.2.2⟩
  ·obtain ⟨wo,hwo⟩:∃ wo:World,wo = wr:=⟨_,rfl⟩
   subst hwo
   have hs0:rowSum wo g n = cur0.sum:=by rw [<- hl0]; exact rowSum_own (isR_own hI.2.1)
   have HS0:=hid hs0
   have HI:=hid hI
   have HL0:=hid hl0
   clear hI hf hl0 hs0
   go_wp2_with (fail)
   go_loopw [7,22] (fun ch i wr => ∃ (b2:Bool) (k:Nat) (cur:List Nat),ch = .bool b2 /\ k <= n /\ i = .int .i64 k /\ ClI w c rel g cp n cur wr /\ (b2 = false -> cur = cur0 /\ ∀ z,z < k -> lackS c cur z = 0) /\ (b2 = true -> cur0.sum < cur.sum)) (fun _ i _ => n - (intOf i).toNat)
   case atStart => exact ⟨false,0,cur0,rfl,by omega,rfl,HI.out,fun _ => ⟨rfl,fun z hz => by omega⟩,fun h => by cases h⟩
   case round =>
    obtain ⟨b2,k,cur,rfl,hk,rfl,hI2,hno,hyes⟩:=hrel
    have hlc:cur.length = n:=by have:=hI2.1.len; rw [HN.out] at this; exact this
    have HI2:=hid hI2
    have HLC:=hid hlc
    have HNO:=hid hno
    have HYES:=hid hyes
    by_cases hkn:(k:Int) < (n:Int)
    ·have b0:(0:Int) <= (k:Int):=by omega
     have hlk:=lacking_call wr g 0 n cp cur (isR_own hI2.2.1) hlc hI2.1.ok c (by omega) k (by omega)
     unfold RetN at hlk
     obtain ⟨y,hy⟩:∃ y,y = lackS c cur k:=⟨_,rfl⟩
     rw [<- hy] at hlk
     have hy16:y < 16:=by
      rw [hy]
      have h3:=need_lt' (c:=c) hI2.1.ok (show k < cur.length by omega) 3 (by omega)
      unfold lackS
      split
      ·omega
      ·unfold andn; exact Nat.lt_of_le_of_lt Nat.and_le_left h3
     have HLK:=hid hlk
     have HY:=hid hy
     clear hlk hy hI2 hlc hno hyes
     by_cases hz:y = 0
     ·subst hz
      go_wp2_with (go_at_call 47; ((with_reducible refine HLK.out.mono ?_); rintro e w3 ⟨rfl,hB3⟩))
      go_roundw
      case rel => exact ⟨b2,k + 1,cur,rfl,by omega,by go_num,⟨HI2.out.1,own_below9 HI2.out.2.1 hB3,HI2.out.2.2.trans (hB3.mono HI2.out.2.2.size)⟩,fun h => ⟨(HNO.out h).1,fun z hz => by
       by_cases e:z = k
       ·subst e; exact HY.out.symm
       ·exact (HNO.out h).2 z (by omega)⟩,HYES.out⟩
      case measure => simp [intOf]; omega
     ·have hyz:¬ (y:Int) = 0:=by omega
      have hyz2:((y:Int) != 0) = true:=by simp; omega
      go_upto_region 12 with (go_at_call 47; ((with_reducible refine HLK.out.mono ?_); rintro e w3 ⟨rfl,hB3⟩))
      obtain ⟨x,hx⟩:∃ x,cur[k]? = some x:=⟨_,List.getElem?_eq_getElem (by rw [HLC.out]; omega)⟩
      have hgx:=getD_get hx
      have hx16:x < 16:=by rw [<- hgx]; exact HI2.out.1.ok.get k
      have ho3:=own_below9 HI2.out.2.1 hB3
      have cx:w3.cell? ⟨g,k,none⟩ = some (.int .i64 (x:Int)):=by have:=isR_own ho3 k x hx; rwa [Nat.zero_add] at this
      have fx:=ho3.frozenAt k
      have f2:=bits_or x y (by omega) (by omega)
      obtain ⟨u,hu⟩:∃ u,u = x ||| y:=⟨_,rfl⟩
      rw [<- hu] at f2
      have HG:=hid (own_ge HI2.out.2.1 g rfl)
      have HO3:=hid ho3
      have HB3:=hid hB3
      have HU:=hid hu
      have HGX:=hid hgx
      clear ho3 hB3 hu hx hgx
      go_wp2_with (fail)
      go_roundw
      case rel =>
       have hst:=HI2.out.1.step (w:=k) (by rw [HLC.out]; omega)
       have hsm:=sum_step (c:=c) HI2.out.1.ok (w:=k) (by rw [HLC.out]; omega) (by rw [<- HY.out]; exact hz)
       rw [<- HY.out,HGX.out,<- HU.out] at hst hsm
       refine ⟨true,k + 1,cur.set k u,rfl,by omega,by go_num,⟨hst,by rw [ints_set]; exact (HO3.out.stored k _).1,(HI2.out.2.2.trans (HB3.out.mono HI2.out.2.2.size)).setCell (p:=⟨g,k,none⟩) HG.out _⟩,fun h => (by cases h),fun _ => ?_⟩
       rcases b2 with _ | _
       ·rw [<- (HNO.out rfl).1]; exact hsm
       ·exact Nat.lt_trans (HYES.out rfl) hsm
      case measure => simp [intOf]; omega
    ·obtain rfl:k = n:=by omega
     have hs1:rowSum wr g k = cur.sum:=by have:=rowSum_own (isR_own HI2.out.2.1); rw [HLC.out] at this; exact this
     have hle1:=HI2.out.1.ok.sum_le
     have HS1:=hid hs1
     have HLE:=hid hle1
     clear hI2 hlc hno hyes hs1 hle1
     go_wp2_with (fail)
     go_roundw
     case rel => exact ⟨b2,cur,rfl,HI2.out,fun h z hz => (lack_zero HI2.out.1.ok hz).1 ((HNO.out h).2 z (by rw [HLC.out] at hz; exact hz))⟩
     case measure =>
      rw [HS0.out,HS1.out]
      have h5:=HLE.out
      rcases b2 with _ | _
      ·rw [(HNO.out rfl).1]; simp [bitOf]
      ·have:=HYES.out rfl
       simp only [bitOf]
       omega
end Go.Proofs.YtflmllablfjfeaaDoor
