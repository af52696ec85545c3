import Derived.Test.YtdobflpbkfkmgaaGreatDoorLexN
import Derived.Test.YtdobflpbkfkmgaaGreatDoorKit
import Derived.Deep.Cut
namespace Go.Proofs.YtdobflpbkfkmgaaGreatDoor
open Go.RowKit
set_option linter.unusedVariables false
set_option linter.unusedSimpArgs false
set_option linter.unusedSectionVars false
def trS:Nat -> ByteArray
 | 0 => ⟨#[80]⟩
 | n + 1 => ⟨#[40]⟩ ++ trS n ++ ⟨#[41,32,38,32,40]⟩ ++ trS n ++ ⟨#[41]⟩
theorem szL (l:Array UInt8):(⟨l⟩:ByteArray).size = l.size:=rfl
theorem trS_size:∀ n,(trS n).size + 7 = 8 * 2 ^ n
 | 0 => rfl
 | n + 1 => by
  have h:=trS_size n
  simp only [trS,ByteArray.size_append,Nat.pow_succ]
  show 1 + (trS n).size + 5 + (trS n).size + 1 + 7 = 8 * (2 ^ n * 2)
  omega
theorem trS_le {n:Nat} (h:n <= 8):(trS n).size <= 2041:=by
 have h1:=trS_size n
 have h2:2 ^ n <= 2 ^ 8:=Nat.pow_le_pow_right (by omega) h
 omega
set_option maxRecDepth 100000 in
set_option maxHeartbeats 4000000 in
theorem tree_call:∀ (n:Nat),n <= 8 -> ∀ (w:World),Calls Tryz.prog 24 #[.int .i64 ((n:Int) + 1)] w (fun E w' => E = .returned (.string (trS n)) /\ w = w')
 | 0,_,w => by
  simp only [show (((0:Nat):Int) + 1) = 1 from rfl]
  go_enter Tryz.func24,Tryz.ntmps24
  go_wp2_with (fail)
  refine bodyPost_ret (v:=.string ⟨#[80]⟩) (by simp [results,Tryz.results24,go_sem]) rfl ?_
  exact ⟨rfl,rfl⟩
 | n + 1,hn,w => by
  have ih:=tree_call n (by omega)
  have hz:=trS_le (n:=n) (by omega)
  obtain ⟨q,hq⟩:∃ q,q = trS n:=⟨_,rfl⟩
  rw [<- hq] at ih hz
  have HQ:=Lib.hid hq
  obtain ⟨i,hi⟩:∃ i:Int,i = ((n + 1:Nat):Int) + 1:=⟨_,rfl⟩
  have e1:i - 1 = (n:Int) + 1:=by omega
  have i0:0 <= i:=by omega
  have i9:i <= 9:=by omega
  have i1:(i == 1) = false:=by simp; omega
  rw [<- hi]
  rw [<- e1] at ih
  have HI:=Lib.hid ih
  clear ih hq hi e1 hn
  go_enter Tryz.func24,Tryz.ntmps24
  go_wp2_with (go_at_call 24; ((with_reducible refine (HI.out _).mono ?_); rintro _ w9 ⟨rfl,rfl⟩))
  refine bodyPost_ret (v:=.string (⟨#[40]⟩ ++ q ++ ⟨#[41,32,38,32,40]⟩ ++ q ++ ⟨#[41]⟩)) (by simp [results,Tryz.results24,go_sem]) rfl ?_
  exact ⟨by rw [HQ.out]; rfl,rfl⟩
end Go.Proofs.YtdobflpbkfkmgaaGreatDoor
namespace Go.Proofs.YtdobflpbkfkmgaaGreatDoor
open Go.RowKit Lib
set_option linter.unusedVariables false
set_option linter.unusedSimpArgs false
set_option linter.unusedSectionVars false
set_option maxRecDepth 100000 in
set_option maxHeartbeats 8000000 in
theorem sizes_of (G:World -> Prop) (hUp:∀ W W',G W -> Below W.heap.size W W' -> G W') (hP:∀ W s,G W -> s.size <= 16384 -> Calls Tryz.prog 5 #[.string s] W (RetW W true)) (w:World) (hG:G w):Calls Tryz.prog 8 #[] w (RetW w true):=by
 unfold RetW at hP
 have HP:=hid hP
 have HUP:=hid hUp
 have HG0:=hid hG
 have HT8:Hid (∀ w:World,Calls Tryz.prog 24 #[.int .i64 8] w (fun E w' => E = .returned (.string (trS 7)) /\ w = w')):=hid fun w => tree_call 7 (by omega) w
 have HT6:Hid (∀ w:World,Calls Tryz.prog 24 #[.int .i64 6] w (fun E w' => E = .returned (.string (trS 5)) /\ w = w')):=hid fun w => tree_call 5 (by omega) w
 have HT5:Hid (∀ w:World,Calls Tryz.prog 24 #[.int .i64 5] w (fun E w' => E = .returned (.string (trS 4)) /\ w = w')):=hid fun w => tree_call 4 (by omega) w
 have z7:=trS_le (n:=7) (by omega)
 have z5:=trS_le (n:=5) (by omega)
 have z4:=trS_le (n:=4) (by omega)
 obtain ⟨q7,hq7⟩:∃ q,q = trS 7:=⟨_,rfl⟩
 obtain ⟨q5,hq5⟩:∃ q,q = trS 5:=⟨_,rfl⟩
 obtain ⟨q4,hq4⟩:∃ q,q = trS 4:=⟨_,rfl⟩
 rw [<- hq7] at HT8 z7
 rw [<- hq5] at HT6 z5
 rw [<- hq4] at HT5 z4
 clear hP hUp hG hq7 hq5 hq4
 go_enter Tryz.func8,Tryz.ntmps8
 go_wp2_with (fail)
 go_loopw [1,2,3,4] (fun a b c i wr => ∃ (j:Nat) (x y z:ByteArray),a = .string x /\ b = .string y /\ c = .string z /\ i = .int .i64 j /\ j <= 70 /\ x.size <= 1 + j /\ y.size <= 1 + 3 * j /\ z.size <= 1 + 3 * j /\ G wr /\ Below w.heap.size w wr) (fun _ _ _ i _ => 70 - (intOf i).toNat)
 case atStart => exact ⟨0,_,_,_,rfl,rfl,rfl,rfl,by omega,by decide,by decide,by decide,HG0.out,Below.refl _ _⟩
 case round =>
  obtain ⟨j,x,y,z,rfl,rfl,rfl,rfl,hj,hx,hy,hz,hG,hB⟩:=hrel
  have HG:=hid hG
  have HBW:=hid hB
  have HX:=hid hx
  have HY:=hid hy
  have HZ:=hid hz
  clear hG hB
  by_cases hj7:(j:Int) < 70
  ·have j0:(0:Int) <= (j:Int):=by omega
   by_cases c1:(35:Int) < (j:Int)
   ·by_cases c2:(j:Int) < 43
    ·clear hj
     go_wp2_with ((go_at_call 5; (with_reducible refine (HP.out _ _ HG.out (by first | omega | (simp only [ByteArray.size_append,szL,List.size_toArray,List.length_cons,List.length_nil]; omega))).mono ?_); rintro _ w9 ⟨rfl,hB9⟩; replace HG:=hid (HUP.out _ _ HG.out hB9); replace HBW:=hid (HBW.out.trans (hB9.mono HBW.out.size)); clear hB9))
     go_roundw
     case rel => exact ⟨j + 1,_,_,_,rfl,rfl,rfl,by go_num,by omega,by first | omega | (simp only [ByteArray.size_append,szL,List.size_toArray,List.length_cons,List.length_nil]; omega),by first | omega | (simp only [ByteArray.size_append,szL,List.size_toArray,List.length_cons,List.length_nil]; omega),by first | omega | (simp only [ByteArray.size_append,szL,List.size_toArray,List.length_cons,List.length_nil]; omega),HG.out,HBW.out⟩
     case measure => simp [intOf]; omega
    ·by_cases c3:(60:Int) < (j:Int)
     ·clear hj
      go_wp2_with ((go_at_call 5; (with_reducible refine (HP.out _ _ HG.out (by first | omega | (simp only [ByteArray.size_append,szL,List.size_toArray,List.length_cons,List.length_nil]; omega))).mono ?_); rintro _ w9 ⟨rfl,hB9⟩; replace HG:=hid (HUP.out _ _ HG.out hB9); replace HBW:=hid (HBW.out.trans (hB9.mono HBW.out.size)); clear hB9))
      go_roundw
      case rel => exact ⟨j + 1,_,_,_,rfl,rfl,rfl,by go_num,by omega,by first | omega | (simp only [ByteArray.size_append,szL,List.size_toArray,List.length_cons,List.length_nil]; omega),by first | omega | (simp only [ByteArray.size_append,szL,List.size_toArray,List.length_cons,List.length_nil]; omega),by first | omega | (simp only [ByteArray.size_append,szL,List.size_toArray,List.length_cons,List.length_nil]; omega),HG.out,HBW.out⟩
      case measure => simp [intOf]; omega
     ·clear hj
      go_wp2_with (fail)
      go_roundw
      case rel => exact ⟨j + 1,_,_,_,rfl,rfl,rfl,by go_num,by omega,by first | omega | (simp only [ByteArray.size_append,szL,List.size_toArray,List.length_cons,List.length_nil]; omega),by first | omega | (simp only [ByteArray.size_append,szL,List.size_toArray,List.length_cons,List.length_nil]; omega),by first | omega | (simp only [ByteArray.size_append,szL,List.size_toArray,List.length_cons,List.length_nil]; omega),HG.out,HBW.out⟩
      case measure => simp [intOf]; omega
   ·have c3:¬ (60:Int) < (j:Int):=by omega
    clear hj
    go_wp2_with (fail)
    go_roundw
    case rel => exact ⟨j + 1,_,_,_,rfl,rfl,rfl,by go_num,by omega,by first | omega | (simp only [ByteArray.size_append,szL,List.size_toArray,List.length_cons,List.length_nil]; omega),by first | omega | (simp only [ByteArray.size_append,szL,List.size_toArray,List.length_cons,List.length_nil]; omega),by first | omega | (simp only [ByteArray.size_append,szL,List.size_toArray,List.length_cons,List.length_nil]; omega),HG.out,HBW.out⟩
    case measure => simp [intOf]; omega
  ·clear HX HY HZ
   go_wp2_with (first | (go_at_call 24; first | ((with_reducible refine (HT8.out _).mono ?_); rintro _ w9 ⟨rfl,rfl⟩) | ((with_reducible refine (HT6.out _).mono ?_); rintro _ w9 ⟨rfl,rfl⟩) | ((with_reducible refine (HT5.out _).mono ?_); rintro _ w9 ⟨rfl,rfl⟩)))
   have HG1:=HG
   have HBW1:=HBW
   go_loopw [5,6] (fun a i wr => ∃ (j:Nat) (x:ByteArray),a = .string x /\ i = .int .i64 j /\ j <= 27 /\ x.size <= 6140 + 4 * j /\ G wr /\ Below w.heap.size w wr) (fun _ i _ => 27 - (intOf i).toNat)
   case atStart => exact ⟨0,_,rfl,rfl,by omega,by first | omega | (simp only [ByteArray.size_append,szL,List.size_toArray,List.length_cons,List.length_nil]; omega),HG1.out,HBW1.out⟩
   case round =>
    obtain ⟨j,x,rfl,rfl,hj,hx,hG,hB⟩:=hrel
    have HG:=hid hG
    have HBW:=hid hB
    clear hG hB
    by_cases hj7:(j:Int) < 27
    ·have j0:(0:Int) <= (j:Int):=by omega
     go_wp2_with ((go_at_call 5; (with_reducible refine (HP.out _ _ HG.out (by first | omega | (simp only [ByteArray.size_append,szL,List.size_toArray,List.length_cons,List.length_nil]; omega))).mono ?_); rintro _ w9 ⟨rfl,hB9⟩; replace HG:=hid (HUP.out _ _ HG.out hB9); replace HBW:=hid (HBW.out.trans (hB9.mono HBW.out.size)); clear hB9))
     go_roundw
     case rel => exact ⟨j + 1,_,rfl,by go_num,by omega,by first | omega | (simp only [ByteArray.size_append,szL,List.size_toArray,List.length_cons,List.length_nil]; omega),HG.out,HBW.out⟩
     case measure => simp [intOf]; omega
    ·go_wp2_with (fail)
     refine bodyPost_ret (v:=.bool true) (by simp [results,Tryz.results8,go_sem]) rfl ?_
     exact ⟨rfl,HBW.out⟩
end Go.Proofs.YtdobflpbkfkmgaaGreatDoor
namespace Go.Proofs.YtdobflpbkfkmgaaGreatDoor
open Go.RowKit Go.HK Lib
set_option linter.unusedVariables false
set_option linter.unusedSimpArgs false
set_option linter.unusedSectionVars false
theorem nests_row {wr:World} {g:Nat} (h:wr.heap[g]? = some (.cells #[.string ⟨#[126]⟩,.string ⟨#[40]⟩,.string ⟨#[97,108,108,32,120,32]⟩,.string ⟨#[80,32,45,62,32]⟩,.string ⟨#[80,32,117,110,116,105,108,32]⟩,.string ⟨#[40,80,32,38,32]⟩,.string ⟨#[110,101,120,116,40]⟩,.string ⟨#[80,40,102,40]⟩] 9 (0,0))) {i:Nat} (hi:i < 8):∃ e:ByteArray,wr.cell? ⟨g,i,none⟩ = some (.string e) /\ e.size <= 8:=by
 rcases (by omega:i = 0 ∨ i = 1 ∨ i = 2 ∨ i = 3 ∨ i = 4 ∨ i = 5 ∨ i = 6 ∨ i = 7) with rfl | rfl | rfl | rfl | rfl | rfl | rfl | rfl
 all_goals exact ⟨_,(Go.HK.blk_cell h _).trans rfl,by decide⟩
set_option maxRecDepth 100000 in
set_option maxHeartbeats 8000000 in
theorem nests_of (G:World -> Prop) (hUp:∀ W W',G W -> Below W.heap.size W W' -> G W') (hP:∀ W s,G W -> s.size <= 16384 -> Calls Tryz.prog 5 #[.string s] W (RetW W true)) (w:World) (hG:G w):Calls Tryz.prog 7 #[] w (RetW w true):=by
 unfold RetW at hP
 have HP:=hid hP
 have HUP:=hid hUp
 have hB1:Below w.heap.size w (w.alloc (.cells #[.string ⟨#[126]⟩,.string ⟨#[40]⟩,.string ⟨#[97,108,108,32,120,32]⟩,.string ⟨#[80,32,45,62,32]⟩,.string ⟨#[80,32,117,110,116,105,108,32]⟩,.string ⟨#[40,80,32,38,32]⟩,.string ⟨#[110,101,120,116,40]⟩,.string ⟨#[80,40,102,40]⟩] 9)):=(Below.refl _ w).alloc (Nat.le_refl _) _
 have hG1:G (w.alloc (.cells #[.string ⟨#[126]⟩,.string ⟨#[40]⟩,.string ⟨#[97,108,108,32,120,32]⟩,.string ⟨#[80,32,45,62,32]⟩,.string ⟨#[80,32,117,110,116,105,108,32]⟩,.string ⟨#[40,80,32,38,32]⟩,.string ⟨#[110,101,120,116,40]⟩,.string ⟨#[80,40,102,40]⟩] 9)):=hUp _ _ hG hB1
 have HG1:=hid hG1
 have HB1:=hid hB1
 have hk:=Go.HK.blk_new w (.cells #[.string ⟨#[126]⟩,.string ⟨#[40]⟩,.string ⟨#[97,108,108,32,120,32]⟩,.string ⟨#[80,32,45,62,32]⟩,.string ⟨#[80,32,117,110,116,105,108,32]⟩,.string ⟨#[40,80,32,38,32]⟩,.string ⟨#[110,101,120,116,40]⟩,.string ⟨#[80,40,102,40]⟩] 9)
 have HK0:=hid hk
 clear hP hUp hG hB1 hG1 hk
 go_enter Tryz.func7,Tryz.ntmps7
 go_upto_region 3 with (fail)
 obtain ⟨w1,hw1⟩:∃ x,x = (w.alloc (.cells #[.string ⟨#[126]⟩,.string ⟨#[40]⟩,.string ⟨#[97,108,108,32,120,32]⟩,.string ⟨#[80,32,45,62,32]⟩,.string ⟨#[80,32,117,110,116,105,108,32]⟩,.string ⟨#[40,80,32,38,32]⟩,.string ⟨#[110,101,120,116,40]⟩,.string ⟨#[80,40,102,40]⟩] 9)):=⟨_,rfl⟩
 obtain ⟨g,hg⟩:∃ b,b = w.heap.size:=⟨_,rfl⟩
 rw [<- hw1] at HG1 HB1 HK0 ⊢
 rw [<- hg] at HK0 ⊢
 clear hw1 hg
 go_loopw [2] (fun i wr => ∃ (j:Nat),i = .int .i64 j /\ j <= 8 /\ G wr /\ Below w1.heap.size w1 wr) (fun i _ => 8 - (intOf i).toNat)
 case atStart => exact ⟨0,rfl,by omega,HG1.out,Below.refl _ _⟩
 case round =>
  obtain ⟨j,rfl,hj,hG,hB⟩:=hrel
  have HG:=hid hG
  have HBW:=hid hB
  clear hG hB
  by_cases hj8:(j:Int) < 8
  ·have j0:(0:Int) <= (j:Int):=by omega
   go_wp2_with (fail)
   have HGa:=HG
   have HBa:=HBW
   go_loopw [3,4] (fun a k wr => ∃ (m:Nat) (x:ByteArray),a = .string x /\ k = .int .i64 m /\ m <= 124 /\ x.size <= 8 * m /\ G wr /\ Below w1.heap.size w1 wr) (fun _ k _ => 124 - (intOf k).toNat)
   case atStart => exact ⟨0,_,rfl,rfl,by omega,by decide,HGa.out,HBa.out⟩
   case round =>
    obtain ⟨m,x,rfl,rfl,hm,hx,hG,hB⟩:=hrel
    have HG:=hid hG
    have HBW:=hid hB
    clear hG hB HGa HBa
    by_cases hm4:(m:Int) < 124
    ·have m0:(0:Int) <= (m:Int):=by omega
     by_cases h58:(58:Int) < (m:Int)
     ·go_upto_region 11 with ((go_at_call 5; (with_reducible refine (HP.out _ _ HG.out (by first | omega | (simp only [ByteArray.size_append,szL,List.size_toArray,List.length_cons,List.length_nil]; omega))).mono ?_); rintro _ w9 ⟨rfl,hB9⟩; replace HG:=hid (HUP.out _ _ HG.out hB9); replace HBW:=hid (HBW.out.trans (hB9.mono HBW.out.size)); clear hB9))
      obtain ⟨e,he,hez⟩:=nests_row ((HBW.out.block _ (HK.blk_lt HK0.out)).trans HK0.out) (show j < 8 by omega)
      go_wp2_with (fail)
      go_roundw
      case rel => exact ⟨m + 1,_,rfl,by go_num,by omega,by first | omega | (simp only [ByteArray.size_append,szL,List.size_toArray,List.length_cons,List.length_nil]; omega),HG.out,HBW.out⟩
      case measure => simp [intOf]; omega
     ·obtain ⟨e,he,hez⟩:=nests_row ((HBW.out.block _ (HK.blk_lt HK0.out)).trans HK0.out) (show j < 8 by omega)
      go_wp2_with (fail)
      go_roundw
      case rel => exact ⟨m + 1,_,rfl,by go_num,by omega,by first | omega | (simp only [ByteArray.size_append,szL,List.size_toArray,List.length_cons,List.length_nil]; omega),HG.out,HBW.out⟩
      case measure => simp [intOf]; omega
    ·go_wp2_with (fail)
     go_roundw
     case rel => exact ⟨j + 1,by go_num,by omega,HG.out,HBW.out⟩
     case measure => simp [intOf]; omega
  ·go_wp2_with (fail)
   have HGa:=HG
   have HBa:=HBW
   go_loopw [5,6,7,8] (fun a b c k wr => ∃ (m:Nat) (x y z:ByteArray),a = .string x /\ b = .string y /\ c = .string z /\ k = .int .i64 m /\ m <= 123 /\ x.size <= 8 * m /\ y.size <= 8 * m /\ z.size <= 8 * m /\ G wr /\ Below w1.heap.size w1 wr) (fun _ _ _ k _ => 123 - (intOf k).toNat)
   case atStart => exact ⟨0,_,_,_,rfl,rfl,rfl,rfl,by omega,by decide,by decide,by decide,HGa.out,HBa.out⟩
   case round =>
    obtain ⟨m,x,y,z,rfl,rfl,rfl,rfl,hm,hx,hy,hz,hG,hB⟩:=hrel
    have HG:=hid hG
    have HBW:=hid hB
    clear hG hB HGa HBa
    by_cases hm4:(m:Int) < 123
    ·have m0:(0:Int) <= (m:Int):=by omega
     by_cases h117:(117:Int) < (m:Int)
     ·go_wp2_with ((go_at_call 5; (with_reducible refine (HP.out _ _ HG.out (by first | omega | (simp only [ByteArray.size_append,szL,List.size_toArray,List.length_cons,List.length_nil]; omega))).mono ?_); rintro _ w9 ⟨rfl,hB9⟩; replace HG:=hid (HUP.out _ _ HG.out hB9); replace HBW:=hid (HBW.out.trans (hB9.mono HBW.out.size)); clear hB9))
      go_roundw
      case rel => exact ⟨m + 1,_,_,_,rfl,rfl,rfl,by go_num,by omega,by first | omega | (simp only [ByteArray.size_append,szL,List.size_toArray,List.length_cons,List.length_nil]; omega),by first | omega | (simp only [ByteArray.size_append,szL,List.size_toArray,List.length_cons,List.length_nil]; omega),by first | omega | (simp only [ByteArray.size_append,szL,List.size_toArray,List.length_cons,List.length_nil]; omega),HG.out,HBW.out⟩
      case measure => simp [intOf]; omega
     ·go_wp2_with (fail)
      go_roundw
      case rel => exact ⟨m + 1,_,_,_,rfl,rfl,rfl,by go_num,by omega,by first | omega | (simp only [ByteArray.size_append,szL,List.size_toArray,List.length_cons,List.length_nil]; omega),by first | omega | (simp only [ByteArray.size_append,szL,List.size_toArray,List.length_cons,List.length_nil]; omega),by first | omega | (simp only [ByteArray.size_append,szL,List.size_toArray,List.length_cons,List.length_nil]; omega),HG.out,HBW.out⟩
      case measure => simp [intOf]; omega
    ·go_wp2_with (fail)
     refine bodyPost_ret (v:=.bool true) (by simp [results,Tryz.results7,go_sem]) rfl ?_
     exact ⟨rfl,HB1.out.trans (HBW.out.mono HB1.out.size)⟩
end Go.Proofs.YtdobflpbkfkmgaaGreatDoor
