import Derived.Test.YtdobflpbkfkmgaaGreatDoorR5g
import Derived.Test.YtdobflpbkfkmgaaGreatDoorRfp
import Derived.Test.YtdobflpbkfkmgaaGreatDoorOut
namespace Go.Proofs.YtdobflpbkfkmgaaGreatDoor
open Go.RowKit Go.HK Go.FR Lib
set_option linter.unusedVariables false
set_option linter.unusedSimpArgs false
set_option linter.unusedSectionVars false
structure FstM (ts:List Tok) (z M:Nat):Prop where
 le:M <= z + 1
 no:∀ j,j < M -> (tkA ts j).k ≠ 2
 at_:M <= z -> (tkA ts M).k = 2
theorem fst_ex (ts:List Tok) (z:Nat):∃ M,FstM ts z M:=by
 suffices h:∀ d j,j + d = z + 1 -> (∀ i,i < j -> (tkA ts i).k ≠ 2) -> ∃ M,FstM ts z M from h (z + 1) 0 (by omega) (fun i hi => by omega)
 intro d
 induction d with
 | zero => intro j hj hn; exact ⟨j,by omega,hn,fun h => by omega⟩
 | succ d ih =>
  intro j hj hn
  by_cases h2:(tkA ts j).k = 2
  ·exact ⟨j,by omega,hn,fun _ => h2⟩
  ·exact ih (j + 1) (by omega) fun i hi => by
    rcases Nat.lt_or_ge i j with h | h
    ·exact hn i h
    ·rw [show i = j by omega]; exact h2
set_option maxRecDepth 100000 in
set_option maxHeartbeats 4000000 in
theorem rfirst_call {w:World} {g:Nat} {ts:List Tok} {z n c M:Nat} (hT:TkR w g ts z) (hS:SlT' z 0 0 n c) (hM:FstM ts z M):Calls Tryz.prog 69 #[.slice (some ⟨g,0,none⟩) n c] w (fun E w' => w' = w /\ E = .returned (.int .i64 (M:Int))):=by
 have HT:=hid hT
 have HM:=hid hM
 have hn:n = z + 1:=by have:=hS.hn; omega
 have hz6:=hT.ok.le
 have hnc:=hS.hc
 have HN:=hid hn
 have n6:(n:Int) <= 16385:=by omega
 have n0:(0:Int) <= (n:Int):=by omega
 have nc:(n:Int) <= (c:Int):=by omega
 have HNC:=hid hnc
 clear hT hM hS hn hz6 hnc
 go_enter Tryz.func69,Tryz.ntmps69
 go_wp2_with (fail)
 go_loopw [3] (fun i wr => ∃ j:Nat,i = .int .i64 j /\ wr = w /\ j <= M) (fun i _ => n - (intOf i).toNat)
 case atStart => exact ⟨0,rfl,rfl,Nat.zero_le _⟩
 case round =>
  obtain ⟨j,rfl,rfl,hj⟩:=hrel
  have hMle:=HM.out.le
  have hN:=HN.out
  have j0:(0:Int) <= (j:Int):=by omega
  have j6:(j:Int) <= 16385:=by omega
  by_cases hjn:j < n
  ·have hji:(j:Int) < (n:Int):=by omega
   have hg:=HT.out.ok.get (k:=j) (by omega)
   have c0:=HT.out.tk.c0 j _ hg
   obtain ⟨kk,hkk⟩:∃ q,q = (tkA ts j).k:=⟨_,rfl⟩
   rw [<- hkk] at c0
   by_cases h2:kk = 2
   ·have hjM:j = M:=by
     rcases Nat.lt_or_ge j M with h | h
     ·exact absurd (hkk ▸ h2) (HM.out.no j h)
     ·omega
    have HJ:=hid hjM
    subst h2
    clear hg hkk hjn hMle hN hj hjM
    go_wp2_with (fail)
    refine bodyPost_ret (v:=.int .i64 (j:Int)) (by simp [results,Tryz.results69,go_sem]) rfl ?_
    exact ⟨rfl,by rw [HJ.out]⟩
   ·have hjM:j + 1 <= M:=by
     rcases Nat.lt_or_ge j M with h | h
     ·exact h
     ·have e:j = M:=by omega
      exact absurd (by rw [hkk,e]; exact HM.out.at_ (by omega)) h2
    have HJ:=hid hjM
    have HJN:=hid hjn
    have k2:(kk == 2) = false:=by simpa using h2
    clear hg hkk hjn hMle hN hj hjM h2
    go_wp2_with (fail)
    go_roundw
    case rel => exact ⟨j + 1,by go_num,trivial,HJ.out⟩
    case measure => have:=HJN.out; simp [intOf]; omega
  ·have hji:¬ (j:Int) < (n:Int):=by omega
   have hjM:M = n:=by omega
   have HJ:=hid hjM
   clear hjn hMle hN hj hjM
   go_wp2_with (fail)
   refine bodyPost_ret (v:=.int .i64 (n:Int)) (by simp [results,Tryz.results69,go_sem]) rfl ?_
   exact ⟨rfl,by rw [HJ.out]⟩
def endX (m:Bool) (M:Nat) (ts:List Tok) (x:Ot):Int × Int :=
 if m = false /\ M < plO x then ((tkA ts M).p,50)
 else match x with
  | .bad k e => ((tkA ts k).p,e)
  | .ok _ k => if (tkA ts k).k = 5 then (0,0) else ((tkA ts k).p,50)
set_option maxRecDepth 100000 in
set_option maxHeartbeats 4000000 in
theorem rended_call {w:World} {g:Nat} {ts:List Tok} {z n c o n2 c2 M:Nat} {x:Ot} (m:Bool) (hT:TkR w g ts z) (hS:SlT' z 0 0 n c) (hS2:SlT' z (plO x) o n2 c2) (hx:∀ k e,x = .bad k e -> e = 50 ∨ e = 51) (hM:FstM ts z M):Calls Tryz.prog 37 #[.slice (some ⟨g,0,none⟩) n c,.slice (some ⟨g,o,none⟩) n2 c2,.int .i64 (erO x),.bool m] w (fun E w' => w' = w /\ E = .returned (.tuple #[.int .i64 (endX m M ts x).1,.int .i64 (endX m M ts x).2])):=by
 have HT:=hid hT
 have HM:=hid hM
 have hfi:=rfirst_call hT hS hM
 have HFI:Hid (Calls Tryz.prog 69 #[.slice (some ⟨g,0,none⟩) n c] w (fun E w' => E = .returned (.int .i64 (M:Int)) /\ w = w')):=hid (hfi.mono fun E w' h => ⟨h.2,h.1.symm⟩)
 have hn:n = z + 1:=by have:=hS.hn; omega
 have hz6:=hT.ok.le
 have HN:=hid hn
 have hMle:=hM.le
 have n6:(n:Int) <= 16385:=by omega
 have n0:(0:Int) <= (n:Int):=by omega
 have nc:(n:Int) <= (c:Int):=by have:=hS.hc; omega
 have m0:(0:Int) <= (M:Int):=by omega
 have m6:(M:Int) <= 16385:=by omega
 have HS2:=hid hS2
 obtain ⟨k,hk⟩:∃ k,k = plO x:=⟨_,rfl⟩
 have hkz:k <= z:=by rw [hk]; exact hS2.hk
 have HK:=hid hkz
 have k0:(0:Int) <= (k:Int):=by omega
 have k6:(k:Int) <= 16384:=by omega
 have HAT:Hid ((n:Int) - (n2:Int) = (k:Int)):=hid (by have:=hS2.hn; rw [<- hk] at this; omega)
 have q0:(0:Int) <= (n2:Int):=by omega
 have q6:(n2:Int) <= 16385:=by have:=hS2.hn; omega
 have tt:=HT.out.cells hS2
 rw [<- hk] at tt
 obtain ⟨t0,_,_,_,tn⟩:=tt
 have HX3:=hid hx
 clear hT hM hfi hn hz6 hMle hS hS2 hkz hx
 cases x with
 | bad k' e =>
  have hk2:k = k':=hk
  subst hk2
  clear hk
  have he:=HX3.out _ _ rfl
  have hen:((e:Int) == 0) = false:=by simp; omega
  have hen2:((e:Int) != 0) = true:=by simp; omega
  obtain ⟨x,hx⟩:∃ x,x = Ot.bad k e:=⟨_,rfl⟩
  have HXX:=hid hx
  rw [<- hx]
  simp only [show erO x = (e:Int) by rw [hx]; rfl]
  clear hx he
  go_enter Tryz.func37,Tryz.ntmps37
  go_upto_region 2 with (fail)
  rw [HAT.out]
  rcases m with _ | _
  ·by_cases hMk:M < k
   ·have HX:Hid (endX false M ts x = (((tkA ts M).p:Int),50)):=hid (by unfold endX; rw [if_pos ⟨rfl,by rw [HXX.out]; exact hMk⟩])
    have i1:(M:Int) < (k:Int):=by omega
    have c2:=HT.out.tk.c2 M _ (HT.out.ok.get (k:=M) (by have:=HK.out; omega))
    have im:(M:Int) < (n:Int):=by have:=HK.out; have:=HN.out; omega
    have im0:(0:Int) <= (M:Int):=by omega
    clear hMk
    go_wp2_with ((go_at_call 69; ((with_reducible refine HFI.out.mono ?_); rintro _ w9 ⟨rfl,rfl⟩)))
    refine bodyPost_ret (v:=.tuple #[.int .i64 ((tkA ts M).p:Int),.int .i64 50]) (by simp [results,Tryz.results37,go_sem]) rfl ?_
    exact ⟨rfl,by rw [HX.out]⟩
   ·have HX:Hid (endX false M ts x = (((tkA ts k).p:Int),(e:Int))):=hid (by unfold endX; rw [if_neg (fun h => hMk (by have h2:=h.2; rw [HXX.out] at h2; exact h2))]; rw [HXX.out])
    have i1:¬ (M:Int) < (k:Int):=by omega
    have c2:=HT.out.tk.c2 k _ (HT.out.ok.get (k:=k) HK.out)
    have im:(k:Int) < (n:Int):=by have:=HK.out; have:=HN.out; omega
    have im0:(0:Int) <= (k:Int):=by omega
    by_cases hMe:M = k
    ·have i2:((M:Int) == (k:Int)) = true:=by simp; omega
     clear hMe hMk
     go_wp2_with ((go_at_call 69; ((with_reducible refine HFI.out.mono ?_); rintro _ w9 ⟨rfl,rfl⟩)))
     refine bodyPost_ret (v:=.tuple #[.int .i64 ((tkA ts k).p:Int),.int .i64 (e:Int)]) (by simp [results,Tryz.results37,go_sem]) rfl ?_
     exact ⟨rfl,by rw [HX.out]⟩
    ·have i2:((M:Int) == (k:Int)) = false:=by simp; omega
     clear hMe hMk
     go_wp2_with ((go_at_call 69; ((with_reducible refine HFI.out.mono ?_); rintro _ w9 ⟨rfl,rfl⟩)))
     refine bodyPost_ret (v:=.tuple #[.int .i64 ((tkA ts k).p:Int),.int .i64 (e:Int)]) (by simp [results,Tryz.results37,go_sem]) rfl ?_
     exact ⟨rfl,by rw [HX.out]⟩
  ·have HX:Hid (endX true M ts x = (((tkA ts k).p:Int),(e:Int))):=hid (by unfold endX; rw [if_neg (fun h => by cases h.1)]; rw [HXX.out])
   have c2:=HT.out.tk.c2 k _ (HT.out.ok.get (k:=k) HK.out)
   have im:(k:Int) < (n:Int):=by have:=HK.out; have:=HN.out; omega
   have im0:(0:Int) <= (k:Int):=by omega
   go_wp2_with ((go_at_call 69; ((with_reducible refine HFI.out.mono ?_); rintro _ w9 ⟨rfl,rfl⟩)))
   refine bodyPost_ret (v:=.tuple #[.int .i64 ((tkA ts k).p:Int),.int .i64 (e:Int)]) (by simp [results,Tryz.results37,go_sem]) rfl ?_
   exact ⟨rfl,by rw [HX.out]⟩
 | ok ob k' =>
  have hk2:k = k':=hk
  subst hk2
  clear hk
  obtain ⟨x,hx⟩:∃ x,x = Ot.ok ob k:=⟨_,rfl⟩
  have HXX:=hid hx
  rw [<- hx]
  simp only [show erO x = 0 by rw [hx]; rfl]
  clear hx
  by_cases hk5:(tkA ts k).k = 5
  ·have HKN:=hid hk5
   rw [hk5] at t0
   clear hk5
   go_enter Tryz.func37,Tryz.ntmps37
   go_upto_region 2 with (fail)
   rw [HAT.out]
   rcases m with _ | _
   ·by_cases hMk:M < k
    ·have HX:Hid (endX false M ts x = (((tkA ts M).p:Int),50)):=hid (by unfold endX; rw [if_pos ⟨rfl,by rw [HXX.out]; exact hMk⟩])
     have i1:(M:Int) < (k:Int):=by omega
     have c2:=HT.out.tk.c2 M _ (HT.out.ok.get (k:=M) (by have:=HK.out; omega))
     have im:(M:Int) < (n:Int):=by have:=HK.out; have:=HN.out; omega
     have im0:(0:Int) <= (M:Int):=by omega
     clear hMk
     go_wp2_with ((go_at_call 69; ((with_reducible refine HFI.out.mono ?_); rintro _ w9 ⟨rfl,rfl⟩)))
     refine bodyPost_ret (v:=.tuple #[.int .i64 ((tkA ts M).p:Int),.int .i64 50]) (by simp [results,Tryz.results37,go_sem]) rfl ?_
     exact ⟨rfl,by rw [HX.out]⟩
    ·have HX:Hid (endX false M ts x = (0,0)):=hid (by unfold endX; rw [if_neg (fun h => hMk (by have h2:=h.2; rw [HXX.out] at h2; exact h2))]; rw [HXX.out]; simp only []; rw [if_pos HKN.out])
     have i1:¬ (M:Int) < (k:Int):=by omega
     by_cases hMe:M = k
     ·exact absurd HKN.out (by rw [<- hMe,HM.out.at_ (by have:=HK.out; omega)]; decide)
     ·have i2:((M:Int) == (k:Int)) = false:=by simp; omega
      clear hMe hMk
      go_wp2_with ((go_at_call 69; ((with_reducible refine HFI.out.mono ?_); rintro _ w9 ⟨rfl,rfl⟩)))
      refine bodyPost_ret (v:=.tuple #[.int .i64 0,.int .i64 0]) (by simp [results,Tryz.results37,go_sem]) rfl ?_
      exact ⟨rfl,by rw [HX.out]⟩
   ·have HX:Hid (endX true M ts x = (0,0)):=hid (by unfold endX; rw [if_neg (fun h => by cases h.1)]; rw [HXX.out]; simp only []; rw [if_pos HKN.out])
    go_wp2_with ((go_at_call 69; ((with_reducible refine HFI.out.mono ?_); rintro _ w9 ⟨rfl,rfl⟩)))
    refine bodyPost_ret (v:=.tuple #[.int .i64 0,.int .i64 0]) (by simp [results,Tryz.results37,go_sem]) rfl ?_
    exact ⟨rfl,by rw [HX.out]⟩
  ·have HKN:=hid hk5
   have b5:((tkA ts k).k == 5) = false:=by simpa using hk5
   have b6:((tkA ts k).k != 5) = true:=by simpa using hk5
   clear hk5
   go_enter Tryz.func37,Tryz.ntmps37
   go_upto_region 2 with (fail)
   rw [HAT.out]
   rcases m with _ | _
   ·by_cases hMk:M < k
    ·have HX:Hid (endX false M ts x = (((tkA ts M).p:Int),50)):=hid (by unfold endX; rw [if_pos ⟨rfl,by rw [HXX.out]; exact hMk⟩])
     have i1:(M:Int) < (k:Int):=by omega
     have c2:=HT.out.tk.c2 M _ (HT.out.ok.get (k:=M) (by have:=HK.out; omega))
     have im:(M:Int) < (n:Int):=by have:=HK.out; have:=HN.out; omega
     have im0:(0:Int) <= (M:Int):=by omega
     clear hMk
     go_wp2_with ((go_at_call 69; ((with_reducible refine HFI.out.mono ?_); rintro _ w9 ⟨rfl,rfl⟩)))
     refine bodyPost_ret (v:=.tuple #[.int .i64 ((tkA ts M).p:Int),.int .i64 50]) (by simp [results,Tryz.results37,go_sem]) rfl ?_
     exact ⟨rfl,by rw [HX.out]⟩
    ·have HX:Hid (endX false M ts x = (((tkA ts k).p:Int),50)):=hid (by unfold endX; rw [if_neg (fun h => hMk (by have h2:=h.2; rw [HXX.out] at h2; exact h2))]; rw [HXX.out]; simp only []; rw [if_neg HKN.out])
     have i1:¬ (M:Int) < (k:Int):=by omega
     have c2:=HT.out.tk.c2 k _ (HT.out.ok.get (k:=k) HK.out)
     have im:(k:Int) < (n:Int):=by have:=HK.out; have:=HN.out; omega
     have im0:(0:Int) <= (k:Int):=by omega
     by_cases hMe:M = k
     ·have i2:((M:Int) == (k:Int)) = true:=by simp; omega
      clear hMe hMk
      go_wp2_with ((go_at_call 69; ((with_reducible refine HFI.out.mono ?_); rintro _ w9 ⟨rfl,rfl⟩)))
      refine bodyPost_ret (v:=.tuple #[.int .i64 ((tkA ts k).p:Int),.int .i64 50]) (by simp [results,Tryz.results37,go_sem]) rfl ?_
      exact ⟨rfl,by rw [HX.out]⟩
     ·have i2:((M:Int) == (k:Int)) = false:=by simp; omega
      clear hMe hMk
      go_wp2_with ((go_at_call 69; ((with_reducible refine HFI.out.mono ?_); rintro _ w9 ⟨rfl,rfl⟩)))
      refine bodyPost_ret (v:=.tuple #[.int .i64 ((tkA ts k).p:Int),.int .i64 50]) (by simp [results,Tryz.results37,go_sem]) rfl ?_
      exact ⟨rfl,by rw [HX.out]⟩
   ·have HX:Hid (endX true M ts x = (((tkA ts k).p:Int),50)):=hid (by unfold endX; rw [if_neg (fun h => by cases h.1)]; rw [HXX.out]; simp only []; rw [if_neg HKN.out])
    have c2:=HT.out.tk.c2 k _ (HT.out.ok.get (k:=k) HK.out)
    have im:(k:Int) < (n:Int):=by have:=HK.out; have:=HN.out; omega
    have im0:(0:Int) <= (k:Int):=by omega
    go_wp2_with ((go_at_call 69; ((with_reducible refine HFI.out.mono ?_); rintro _ w9 ⟨rfl,rfl⟩)))
    refine bodyPost_ret (v:=.tuple #[.int .i64 ((tkA ts k).p:Int),.int .i64 50]) (by simp [results,Tryz.results37,go_sem]) rfl ?_
    exact ⟨rfl,by rw [HX.out]⟩
end Go.Proofs.YtdobflpbkfkmgaaGreatDoor
