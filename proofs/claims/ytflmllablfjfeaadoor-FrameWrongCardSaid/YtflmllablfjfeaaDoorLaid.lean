import Derived.Test.YtflmllablfjfeaaDoorPli
import Derived.Test.YtflmllablfjfeaaDoorTie
import Derived.ProofKit
import Derived.LaidMore
import Derived.ChangeMaps5
import Derived.OpenShut
import Derived.Stop.Joined
import Derived.ChangeOld
import Derived.Deep.SlicePairs
namespace Go.Proofs.YtflmllablfjfeaaDoor
open Go Go.ChangeShapes Go.WideShapes Go.ChangeAt Go.RowKit Go.HK Go.FR
set_option linter.unusedVariables false
set_option linter.unusedSimpArgs false
set_option linter.unusedSectionVars false
theorem own:ownKnob Tryd.prog.godebug = none:=by kernel_rfl
theorem laidOut:laidOutB Tryd.prog = true:=by kernel_rfl
def laidL:List (String × DataW Unit):=Rows.framePersistsRow.laid
theorem tRows:(Tryd.prog.globals[0]?).map (·.type) = some 120:=by kernel_rfl
theorem door_met (os:Os) (args:Array Value):laidMetH Tryd.prog laidL ((World.doorLaid Tryd.prog 400 os).forCall (fun _ _ => 0) ⟨#[],args,[]⟩).memory :=
 laidMetH_of_parts3 (fuel:=8) (laidMet_of_run' 8 (by kernel_rfl) (by kernel_rfl)) (by kernel_rfl) (by kernel_rfl)
theorem len5 {cs:List Value} (h:cs.length = 5):∃ c0 c1 c2 c3 c4,cs = [c0,c1,c2,c3,c4]:=by
 match cs,h with
 | [c0,c1,c2,c3,c4],_ => exact ⟨c0,c1,c2,c3,c4,rfl⟩
theorem row_cells {H:Type} {enc:TypeId × Value -> H} {w:World} {base:Nat} {spare:Nat -> Bool} {held:Bool} {n:Nat} {cs:List Value} {x:DataW H × List MemPlace} (h:DataW.trod enc Tryd.prog w base spare held n 119 cs = some x) :
  ∃ b0 b1 n2 n3 n4,cs = [.bool b0,.bool b1,.int .u8 n2,.int .i64 n3,.int .i64 n4] /\ x.1 = .agg [.lit (.bool b0),.lit (.bool b1),.lit (.int .u8 n2),.lit (.int .i64 n3),.lit (.int .i64 n4)]:=by
 obtain ⟨ys,m,_,hx,hlen,hyl,hf⟩:=DataW.trod_struct Tryd.underlying119 h
 have hc5:Tryd.prog.cellsOf 119 = 5:=by kernel_rfl
 rw [hc5] at hlen
 obtain ⟨c0,c1,c2,c3,c4,rfl⟩:=len5 hlen
 have f0:DataW.trod enc Tryd.prog w base spare held m 4 (([c0,c1,c2,c3,c4].drop 0).take (Tryd.prog.cellsOf 4)) = ys[0]?:=hf 0 _ rfl
 have f1:DataW.trod enc Tryd.prog w base spare held m 4 (([c0,c1,c2,c3,c4].drop 1).take (Tryd.prog.cellsOf 4)) = ys[1]?:=hf 1 _ rfl
 have f2:DataW.trod enc Tryd.prog w base spare held m 5 (([c0,c1,c2,c3,c4].drop 2).take (Tryd.prog.cellsOf 5)) = ys[2]?:=hf 2 _ rfl
 have f3:DataW.trod enc Tryd.prog w base spare held m 3 (([c0,c1,c2,c3,c4].drop 3).take (Tryd.prog.cellsOf 3)) = ys[3]?:=hf 3 _ rfl
 have f4:DataW.trod enc Tryd.prog w base spare held m 3 (([c0,c1,c2,c3,c4].drop 4).take (Tryd.prog.cellsOf 3)) = ys[4]?:=hf 4 _ rfl
 have k4:Tryd.prog.cellsOf 4 = 1:=by kernel_rfl
 have k5:Tryd.prog.cellsOf 5 = 1:=by kernel_rfl
 have k3:Tryd.prog.cellsOf 3 = 1:=by kernel_rfl
 rw [k4] at f0 f1
 rw [k5] at f2
 rw [k3] at f3 f4
 have hy5:ys.length = 5:=hyl
 obtain ⟨y0,y1,y2,y3,y4,rfl⟩:∃ y0 y1 y2 y3 y4,ys = [y0,y1,y2,y3,y4]:=by
  match ys,hy5 with
  | [y0,y1,y2,y3,y4],_ => exact ⟨y0,y1,y2,y3,y4,rfl⟩
 obtain ⟨b0,e0,q0⟩:=DataW.trod_bool Tryd.underlying4 (cs:=[c0]) (x:=y0) f0
 obtain ⟨b1,e1,q1⟩:=DataW.trod_bool Tryd.underlying4 (cs:=[c1]) (x:=y1) f1
 obtain ⟨n2,e2,q2,_⟩:=DataW.trod_int Tryd.underlying5 (cs:=[c2]) (x:=y2) f2
 obtain ⟨n3,e3,q3,_⟩:=DataW.trod_int Tryd.underlying3 (cs:=[c3]) (x:=y3) f3
 obtain ⟨n4,e4,q4,_⟩:=DataW.trod_int Tryd.underlying3 (cs:=[c4]) (x:=y4) f4
 simp only [List.cons.injEq,and_true] at e0 e1 e2 e3 e4
 subst e0 e1 e2 e3 e4 q0 q1 q2 q3 q4
 exact ⟨b0,b1,n2,n3,n4,rfl,by rw [hx]; rfl⟩
def rowsD:List (DataW Unit):=(List.range 17).map fun i => .agg [.lit (.bool (rR i)),.lit (.bool (rS i)),.lit (.int .u8 (rN i:Nat)),.lit (.int .i64 (rA i:Nat)),.lit (.int .i64 (rB i:Nat))]
theorem rows_laid:(Rows.laid_lyceum_syntax_rows:DataW Unit) = .agg rowsD:=rfl
set_option maxRecDepth 100000 in
theorem of_laid {W:World} (h:laidMetH Tryd.prog laidL W):IsRows W:=by
 rw [MakeChecks.laidMetH_plain _ _ _ (by kernel_rfl)] at h
 obtain ⟨ps,⟨g0,t0,cs0,f0,p0,q0,hg0,ht0,hv0,hd0,_,_⟩,_,_⟩:=h
 obtain rfl:g0 = 0:=Option.some.inj (hg0.symm.trans (by kernel_rfl))
 obtain rfl:=Option.some.inj (tRows.symm.trans ht0)
 obtain ⟨xs,m1,rfl,hx1,hlen,hn,hel⟩:=DataW.trod_array Tryd.underlying120 hd0
 have c5:Tryd.prog.cellsOf 119 = 5:=by kernel_rfl
 have c85:Tryd.prog.cellsOf 120 = 85:=by kernel_rfl
 rw [c85] at hlen
 rw [c5] at hel
 have hx2:xs.map (·.1) = rowsD:=by
  have h1:(Rows.laid_lyceum_syntax_rows:DataW Unit) = .agg (xs.map (·.1)):=congrArg Prod.fst hx1
  rw [rows_laid] at h1
  injection h1 with h1
  exact h1.symm
 intro i hi
 have hd:=hel i hi
 obtain ⟨z,hz⟩:∃ z,xs[i]? = some z:=⟨_,List.getElem?_eq_getElem (by omega)⟩
 rw [hz] at hd
 obtain ⟨b0,b1,n2,n3,n4,hcs,hdat⟩:=row_cells hd
 have hm:=congrArg (fun l => l[i]?) hx2
 simp only [List.getElem?_map,hz,Option.map_some,rowsD] at hm
 rw [List.getElem?_range hi] at hm
 simp only [Option.map_some,Option.some.injEq] at hm
 rw [hdat] at hm
 simp only [DataW.agg.injEq,List.cons.injEq,DataW.lit.injEq,Lit.bool.injEq,Lit.int.injEq,true_and,and_true] at hm
 obtain ⟨rfl,rfl,rfl,rfl,rfl⟩:=hm
 have hcell:∀ j v,([Value.bool (rR i),.bool (rS i),.int .u8 (rN i:Nat),.int .i64 (rA i:Nat),.int .i64 (rB i:Nat)]:List Value)[j]? = some v -> W.cell? ⟨0,i * 5 + j,none⟩ = some v:=fun j v hj => by
  have hj5:j < 5:=(List.getElem?_eq_some_iff.1 hj).1
  rw [<- hcs,List.getElem?_take,if_pos hj5,List.getElem?_drop] at hj
  have:=World.var?_cell hg0 hv0 (i * 5 + j)
  rw [this,<- Array.getElem?_toList]
  exact hj
 exact ⟨by simpa using hcell 0 _ rfl,hcell 1 _ rfl,hcell 2 _ rfl,hcell 3 _ rfl,hcell 4 _ rfl⟩
def u8Of:Value -> Nat
 | .int _ n => n.toNat
 | _ => 0
theorem u8_of {H:Type} {enc:TypeId × Value -> H} {w:World} {base:Nat} {spare:Nat -> Bool} {held:Bool} {n:Nat} {v:Value} {x:DataW H × List MemPlace} (h:DataW.trod enc Tryd.prog w base spare held n 5 [v] = some x):v = .int .u8 (u8Of v) /\ u8Of v <= 255:=by
 obtain ⟨z,hz,_,hw⟩:=DataW.trod_int Tryd.underlying5 h
 simp only [List.cons.injEq,and_true] at hz
 subst hz
 have hb:=bounds_u8 hw
 simp only [u8Of]
 exact ⟨by congr 1; omega,by omega⟩
theorem bytes_of {H:Type} {enc:TypeId × Value -> H} {w:World} {base:Nat} {spare:Nat -> Bool} {held:Bool} {fuel n c:Nat} {a:Option Addr} {x:DataW H × List MemPlace} (h:DataW.trod enc Tryd.prog w base spare held fuel 23 [.slice a n c] = some x):∃ l:List Nat,l.length = n /\ IsBy w a l /\ n <= maxLen:=by
 rcases Go.Deep.open_slice1 Tryd.underlying23 (by kernel_rfl) h with ⟨hcs,_⟩ | ⟨ad,l,cap,m,n',V,D,Pl,hcs,_,hl,hml,hm,_,hcell⟩
 ·simp only [List.cons.injEq,and_true,Value.slice.injEq] at hcs
  exact ⟨[],by simp [hcs.2.1],fun k x hx => by simp at hx,by rw [hcs.2.1]; exact Nat.zero_le _⟩
 ·simp only [List.cons.injEq,and_true,Value.slice.injEq] at hcs
  obtain ⟨rfl,rfl,rfl⟩:=hcs
  have hm2:n <= m:=by rw [hm]; split <;> omega
  refine ⟨(List.range n).map fun i => u8Of (V i),by simp,fun k x hx => ?_,by omega⟩
  rw [List.getElem?_map] at hx
  obtain ⟨j,hj,rfl⟩:=Option.map_eq_some_iff.1 hx
  obtain ⟨hlt,he⟩:=List.getElem?_eq_some_iff.1 hj
  simp only [List.length_range] at hlt
  simp only [List.getElem_range] at he
  subst he
  obtain ⟨h0,_⟩:=hcell 0 (by omega)
  obtain ⟨h1,h2⟩:=hcell k (by omega)
  obtain ⟨e1,b1⟩:=u8_of h2
  obtain ⟨g,o,sp⟩:=ad
  have hsp:sp = none:=by
   have:(⟨g,o,sp⟩:Addr).add 0 = ⟨g,o,sp⟩:=by simp [Addr.add]
   rw [this] at h0
   unfold World.cell? at h0
   split at h0
   ·cases sp with
    | none => rfl
    | some s => simp at h0
   ·cases h0
  subst hsp
  refine ⟨by omega,g,o,rfl,?_⟩
  have e2:(⟨g,o,none⟩:Addr).add k = ⟨g,o + k,none⟩:=by
   unfold Addr.add
   by_cases hk:k = 0
   ·simp [hk]
   ·simp [hk]
  rw [e2] at h1
  exact h1.trans (congrArg some e1)
theorem len7 {cs:List Value} (h:cs.length = 7):∃ c0 c1 c2 c3 c4 c5 c6,cs = [c0,c1,c2,c3,c4,c5,c6]:=by
 match cs,h with
 | [c0,c1,c2,c3,c4,c5,c6],_ => exact ⟨c0,c1,c2,c3,c4,c5,c6,rfl⟩
theorem okWide_array {P:Program} {w:World} {r:Reach} {base n:Nat} {e t:TypeId} {v:Value} (ht:P.underlying t = some (.array n e)) (h:Value.okWide P w r base t v):∃ cs,v = .agg cs /\ cs.size = P.cellsOf t:=by
 simp only [Value.okWide,ht] at h
 obtain ⟨cs,h1,h2,_⟩:=h
 exact ⟨cs,h1,h2⟩
theorem seven_of {H:Type} {enc:TypeId × Value -> H} {w:World} {base:Nat} {spare:Nat -> Bool} {held:Bool} {fuel:Nat} {cs:Array Value} {x:DataW H × List MemPlace} (h:DataW.trod enc Tryd.prog w base spare held fuel 22 cs.toList = some x):∃ F:Nat -> Nat,cs = sevenV F /\ ∀ i,F i < 256:=by
 obtain ⟨xs,m,_,_,hlen,hn,hel⟩:=DataW.trod_array Tryd.underlying22 h
 have c7:Tryd.prog.cellsOf 22 = 7:=by kernel_rfl
 have c1:Tryd.prog.cellsOf 5 = 1:=by kernel_rfl
 rw [c7] at hlen
 rw [c1] at hel
 obtain ⟨v0,v1,v2,v3,v4,v5,v6,hcs⟩:=len7 hlen
 have key:∀ i v,([v0,v1,v2,v3,v4,v5,v6]:List Value)[i]? = some v -> v = .int .u8 (u8Of v) /\ u8Of v <= 255:=fun i v hv => by
  have hi:i < 7:=(List.getElem?_eq_some_iff.1 hv).1
  have hd:=hel i hi
  obtain ⟨z,hz⟩:∃ z,xs[i]? = some z:=⟨_,List.getElem?_eq_getElem (by omega)⟩
  rw [hz,hcs,Nat.mul_one,List.drop_eq_getElem_cons hi,List.take_succ_cons,List.take_zero] at hd
  have e:([v0,v1,v2,v3,v4,v5,v6]:List Value)[i] = v:=Option.some.inj ((List.getElem?_eq_getElem hi).symm.trans hv)
  rw [e] at hd
  exact u8_of hd
 refine ⟨fun i => if i < 7 then u8Of (([v0,v1,v2,v3,v4,v5,v6]:List Value).getD i undef) else 0,?_,fun i => ?_⟩
 ·have e0:=(key 0 _ rfl).1
  have e1:=(key 1 _ rfl).1
  have e2:=(key 2 _ rfl).1
  have e3:=(key 3 _ rfl).1
  have e4:=(key 4 _ rfl).1
  have e5:=(key 5 _ rfl).1
  have e6:=(key 6 _ rfl).1
  apply Array.toList_inj.1
  rw [hcs]
  show [v0,v1,v2,v3,v4,v5,v6] = [.int .u8 (u8Of v0:Nat),.int .u8 (u8Of v1:Nat),.int .u8 (u8Of v2:Nat),.int .u8 (u8Of v3:Nat),.int .u8 (u8Of v4:Nat),.int .u8 (u8Of v5:Nat),.int .u8 (u8Of v6:Nat)]
  rw [<- e0,<- e1,<- e2,<- e3,<- e4,<- e5,<- e6]
 ·show (if i < 7 then u8Of (([v0,v1,v2,v3,v4,v5,v6]:List Value).getD i undef) else 0) < 256
  split
  ·rename_i hi
   have:=(key i _ (List.getElem?_eq_getElem (by simpa using hi))).2
   rw [List.getD_eq_getElem?_getD,List.getElem?_eq_getElem (by simpa using hi)]
   exact Nat.lt_succ_of_le this
  ·omega
end Go.Proofs.YtflmllablfjfeaaDoor
