import Derived.Test.YtflmllablfjfeaaDoorFri
import Derived.Test.YtflmllablfjfeaaDoorFrh
import Derived.Test.YtflmllablfjfeaaDoorNmZ
namespace Go.Proofs.YtflmllablfjfeaaDoor
open Go.RowKit Go.HK Go.FR Lib
set_option linter.unusedVariables false
set_option linter.unusedSimpArgs false
set_option linter.unusedSectionVars false
def wrongB (kind mask:Nat) (size:Int):Bool:=if kind = 3 then decide (mask ≠ 0) || decide (size < 1) || decide (4 < size) else if kind = 4 then decide (7 < mask) || decide (size < 1) || decide (4 < size) else true
set_option maxRecDepth 100000 in
set_option maxHeartbeats 1000000 in
theorem wrong_call (w:World) (kind mask:Nat) (size:Int) (hk:kind < 256) (hm:mask < 256) (hs:-9223372036854775808 <= size /\ size <= 9223372036854775807) :
  Calls Tryd.prog 55 #[.int .u8 (kind:Int),.int .u8 (mask:Int),.int .i64 size] w fun e w' => e = .returned (.bool (wrongB kind mask size)) /\ w' = w:=by
 unfold wrongB
 by_cases h3:kind = 3
 ·subst h3
  rw [if_pos rfl]
  go_enter Tryd.func55,Tryd.ntmps55
  go_wp2
  all_goals (
   go_ret
   refine ⟨congrArg (fun b => Ending.returned (Value.bool b)) (Bool.eq_iff_iff.2 ?_),rfl⟩
   simp [*]
   try omega)
 ·rw [if_neg h3]
  have e3:((kind:Int) == 3) = false:=by simp; omega
  by_cases h4:kind = 4
  ·subst h4
   rw [if_pos rfl]
   go_enter Tryd.func55,Tryd.ntmps55
   go_wp2
   all_goals (
    go_ret
    refine ⟨congrArg (fun b => Ending.returned (Value.bool b)) (Bool.eq_iff_iff.2 ?_),rfl⟩
    simp [*]
    try omega)
  ·rw [if_neg h4]
   have e4:((kind:Int) == 4) = false:=by simp; omega
   go_enter Tryd.func55,Tryd.ntmps55
   go_wp2
   go_ret
   exact ⟨rfl,rfl⟩
def IsS (W:World) (g o:Nat) (ss:List ByteArray):Prop:=∀ (i:Nat) (s:ByteArray),ss[i]? = some s -> W.cell? ⟨g,o + i,none⟩ = some (.string s) /\ s.size <= maxLen
theorem IsS.below {W W':World} {g o:Nat} {ss:List ByteArray} (h:IsS W g o ss) (hb:Below W.heap.size W W'):IsS W' g o ss :=
 fun i x hx => ⟨(hb.cell (p:=⟨g,o + i,none⟩) (World.block_lt_of_cell? W _ (h i x hx).1)).trans (h i x hx).1,(h i x hx).2⟩
def ltS (a b:ByteArray):Bool:=Op.bytesLess a.toList b.toList
def predB (s:ByteArray):Bool:=checkB capB alnumB s
def incK (ss:List ByteArray):Nat -> Bool
 | 0 => true
 | k + 1 => incK ss k && (predB (ss.getD k ⟨#[]⟩) && (decide (k = 0) || ltS (ss.getD (k - 1) ⟨#[]⟩) (ss.getD k ⟨#[]⟩)))
theorem incK_mono {ss:List ByteArray}:∀ {a b:Nat},a <= b -> incK ss b = true -> incK ss a = true
 | a,0,h,h2 => by
  obtain rfl:a = 0:=by omega
  exact h2
 | a,b + 1,h,h2 => by
  by_cases e:a = b + 1
  ·subst e; exact h2
  ·unfold incK at h2
   rw [Bool.and_eq_true] at h2
   exact incK_mono (by omega) h2.1
theorem getD_getS {ss:List ByteArray} {k:Nat} {s:ByteArray} (h:ss[k]? = some s):ss.getD k ⟨#[]⟩ = s:=by rw [List.getD_eq_getElem?_getD,h]; rfl
set_option maxRecDepth 100000 in
set_option maxHeartbeats 2000000 in
theorem incr_call (w:World) (g o n c:Nat) (ss:List ByteArray) (hS:IsS w g o ss) (hn:ss.length = n) (hl:n <= 4611686018427387904) :
  Calls Tryd.prog 56 #[.slice (some ⟨g,o,none⟩) n c] w (RetB w (incK ss n)):=by
 have HN:=hid hn
 have HS:=hid hS
 clear hS hn
 go_enter Tryd.func56,Tryd.ntmps56
 go_wp2_with (fail)
 go_loopw [7] (fun i wr => ∃ k:Nat,k <= n /\ i = .int .i64 k /\ incK ss k = true /\ Below w.heap.size w wr) (fun i _ => n - (intOf i).toNat)
 case atStart => exact ⟨0,by omega,rfl,rfl,Below.refl _ _⟩
 case round =>
  obtain ⟨k,hk,rfl,hp,hB⟩:=hrel
  have HB:=hid hB
  have HP:=hid hp
  clear hp
  by_cases hkn:(k:Int) < (n:Int)
  ·have b0:(0:Int) <= (k:Int):=by omega
   obtain ⟨s,hs⟩:∃ s,ss[k]? = some s:=⟨_,List.getElem?_eq_getElem (by rw [HN.out]; omega)⟩
   have hSr:=HS.out.below hB
   obtain ⟨hc,hz⟩:=hSr k s hs
   have hpr:=predicate_any wr s hz
   obtain ⟨pb,hpb⟩:∃ pb,pb = predB s:=⟨_,rfl⟩
   unfold RetW at hpr
   rw [show checkB capB alnumB s = pb from hpb.symm] at hpr
   have HPR:=hid hpr
   have HPB:=hid hpb
   have HGS:=hid (getD_getS hs)
   have hno:∀ (h:incK ss (k + 1) = false),incK ss n = false:=fun h => by
    rcases e:incK ss n with _ | _
    ·rfl
    ·have:=incK_mono (show k + 1 <= n by omega) e
     rw [h] at this; cases this
   have HNO:=hid hno
   clear hpr hpb hB hno
   cases pb
   ·have hf:Hid (incK ss n = false):=hid (HNO.out (by unfold incK; rw [HGS.out,<- HPB.out]; simp))
    go_wp2_with (go_at_call 43; ((with_reducible refine HPR.out.mono ?_); rintro e w1 ⟨rfl,hB1⟩))
    go_ret
    exact ⟨by rw [hf.out]; rfl,HB.out.trans (hB1.mono HB.out.size)⟩
   ·by_cases h0:k = 0
    ·have ht:Hid (incK ss (k + 1) = true):=hid (by unfold incK; rw [HP.out,HGS.out,<- HPB.out,decide_eq_true h0]; rfl)
     have bk:¬ (0:Int) < (k:Int):=by omega
     clear h0
     go_wp2_with (go_at_call 43; ((with_reducible refine HPR.out.mono ?_); rintro e w1 ⟨rfl,hB1⟩))
     go_roundw
     case rel => exact ⟨k + 1,by omega,by go_num,ht.out,HB.out.trans (hB1.mono HB.out.size)⟩
     case measure => simp [intOf]; omega
    ·obtain ⟨t,ht⟩:∃ t,ss[k - 1]? = some t:=⟨_,List.getElem?_eq_getElem (by rw [HN.out]; omega)⟩
     have bk:(0:Int) < (k:Int):=by omega
     have hct:∀ W',Below wr.heap.size wr W' -> W'.cell? ⟨g,o + (k - 1),none⟩ = some (.string t):=fun W' h => ((hSr.below h) (k - 1) t ht).1
     have HGT:=hid (getD_getS ht)
     obtain ⟨lb,hlb⟩:∃ lb,lb = Op.bytesLess t.toList s.toList:=⟨_,rfl⟩
     have hnx:Hid (incK ss (k + 1) = lb):=hid (by
      unfold incK
      rw [HP.out,HGS.out,HGT.out,<- HPB.out,hlb]
      simp [h0,ltS])
     have hlb2:=hlb.symm
     clear hlb ht hs
     cases lb
     ·have hf:Hid (incK ss n = false):=hid (HNO.out hnx.out)
      go_wp2_with (go_at_call 43; ((with_reducible refine HPR.out.mono ?_); rintro e w1 ⟨rfl,hB1⟩; have hct2:=hct _ hB1))
      go_ret
      exact ⟨by rw [hf.out]; rfl,HB.out.trans (hB1.mono HB.out.size)⟩
     ·go_wp2_with (go_at_call 43; ((with_reducible refine HPR.out.mono ?_); rintro e w1 ⟨rfl,hB1⟩; have hct2:=hct _ hB1))
      go_roundw
      case rel => exact ⟨k + 1,by omega,by go_num,hnx.out,HB.out.trans (hB1.mono HB.out.size)⟩
      case measure => simp [intOf]; omega
  ·obtain rfl:k = n:=by omega
   go_wp2_with (fail)
   go_ret
   exact ⟨by rw [HP.out]; rfl,HB.out⟩
def RetCount (w:World) (kind mask:Nat) (size:Int) (ss:List ByteArray) (e:Ending) (w':World):Prop :=
 Below w.heap.size w w' /\ e = .returned (.tuple (if wrongB kind mask size = true ∨ incK ss ss.length = false then #[.int .i64 0,.int .i64 2] else if 16384 < countS (decide (kind = 3)) mask ss.length size.toNat then #[.int .i64 0,.int .i64 5] else #[.int .i64 ((countS (decide (kind = 3)) mask ss.length size.toNat:Nat):Int),.int .i64 0]))
set_option maxRecDepth 100000 in
set_option maxHeartbeats 2000000 in
theorem count32_call (w:World) (kind mask:Nat) (size:Int) (g o n c:Nat) (ss:List ByteArray) (hS:IsS w g o ss) (hn:ss.length = n) (hl:n <= 4611686018427387904) (hk:kind < 256) (hm:mask < 256) (hs:-9223372036854775808 <= size /\ size <= 9223372036854775807) :
  Calls Tryd.prog 32 #[.int .u8 (kind:Int),.int .u8 (mask:Int),.slice (some ⟨g,o,none⟩) n c,.int .i64 size] w (RetCount w kind mask size ss):=by
 have hwr:=wrong_call w kind mask size hk hm hs
 have hin:=incr_call w g o n c ss hS hn hl
 unfold RetCount
 rw [hn]
 obtain ⟨wb,hwb⟩:∃ wb,wb = wrongB kind mask size:=⟨_,rfl⟩
 obtain ⟨ib,hib⟩:∃ ib,ib = incK ss n:=⟨_,rfl⟩
 rw [<- hwb] at hwr ⊢
 rw [<- hib] at hin ⊢
 unfold RetB at hin
 have HWR:=hid hwr
 have HIN:=hid hin
 have HWB:=hid hwb
 clear hwr hin hib hwb hS hn
 cases wb
 ·cases ib
  ·rw [if_pos (.inr rfl)]
   go_enter Tryd.func32,Tryd.ntmps32
   go_wp2_with (first
    | (go_at_call 55; ((with_reducible refine HWR.out.mono ?_); rintro e w1 ⟨rfl,hw⟩; have hw:=hw.symm; subst hw))
    | (go_at_call 56; ((with_reducible refine HIN.out.mono ?_); rintro e w2 ⟨rfl,hB2⟩)))
   go_ret2
   exact ⟨hB2,rfl⟩
  ·rw [if_neg (by simp)]
   have hw1:1 <= size /\ size <= 4:=by
    have h:=HWB.out
    unfold wrongB at h
    split at h
    ·simp at h; omega
    ·split at h
     ·simp at h; omega
     ·cases h
   obtain ⟨z,rfl⟩:∃ z:Nat,size = (z:Int):=⟨size.toNat,by omega⟩
   rw [Int.toNat_natCast]
   have hco:=fun W => count_call W kind mask n z hk hm (by omega) (by omega)
   obtain ⟨S,hS⟩:∃ S,S = countS (decide (kind = 3)) mask n z:=⟨_,rfl⟩
   rw [<- hS] at hco ⊢
   have hS2:S <= 16385:=by rw [hS]; exact Nat.min_le_right _ _
   unfold RetN at hco
   have HCO:=hid hco
   clear hco hS
   by_cases hb:16384 < S
   ·rw [if_pos hb]
    have hb2:(16384:Int) < (S:Int):=by omega
    go_enter Tryd.func32,Tryd.ntmps32
    go_wp2_with (first
     | (go_at_call 55; ((with_reducible refine HWR.out.mono ?_); rintro e w1 ⟨rfl,hw⟩; have hw:=hw.symm; subst hw))
     | (go_at_call 56; ((with_reducible refine HIN.out.mono ?_); rintro e w2 ⟨rfl,hB2⟩))
     | (go_at_call 57; ((with_reducible refine (HCO.out _).mono ?_); rintro e w3 ⟨rfl,hB3⟩)))
    go_ret2
    exact ⟨hB2.trans (hB3.mono hB2.size),rfl⟩
   ·rw [if_neg hb]
    have hb2:¬ (16384:Int) < (S:Int):=by omega
    go_enter Tryd.func32,Tryd.ntmps32
    go_wp2_with (first
     | (go_at_call 55; ((with_reducible refine HWR.out.mono ?_); rintro e w1 ⟨rfl,hw⟩; have hw:=hw.symm; subst hw))
     | (go_at_call 56; ((with_reducible refine HIN.out.mono ?_); rintro e w2 ⟨rfl,hB2⟩))
     | (go_at_call 57; ((with_reducible refine (HCO.out _).mono ?_); rintro e w3 ⟨rfl,hB3⟩)))
    go_ret2
    exact ⟨hB2.trans (hB3.mono hB2.size),rfl⟩
 ·rw [if_pos (.inl rfl)]
  go_enter Tryd.func32,Tryd.ntmps32
  go_wp2_with (go_at_call 55; ((with_reducible refine HWR.out.mono ?_); rintro e w1 ⟨rfl,hw⟩; have hw:=hw.symm; subst hw))
  go_ret2
  exact ⟨Below.refl _ _,rfl⟩
end Go.Proofs.YtflmllablfjfeaaDoor
