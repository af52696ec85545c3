import Derived.Test.YtflmllablfjfeaaDoorLaid
import Derived.Test.YtflmllablfjfeaaDoorOrC
import Derived.Test.YtflmllablfjfeaaDoorEad
import Derived.Deep.CutBlock
import Derived.Deep.QuietTactic
import Derived.BigQuiet
namespace Go.Proofs.YtflmllablfjfeaaDoor
open Go Go.RowKit Go.FR Go.ChangeShapes Go.WideShapes Go.ChangeAt Go.ChangeMaps
theorem u16_of {H:Type} {enc:TypeId × Value -> H} {w:World} {base:Nat} {spare:Nat -> Bool} {held:Bool} {n:Nat} {v:Value} {x:DataW H × List MemPlace} (h:DataW.trod enc Tryd.prog w base spare held n 62 [v] = some x):v = .int .u16 (u8Of v) /\ u8Of v < 65536:=by
 obtain ⟨z,hz,_,hw⟩:=DataW.trod_int Tryd.underlying62 h
 simp only [List.cons.injEq,and_true] at hz
 subst hz
 have hb:=bounds_u16 hw
 simp only [u8Of]
 exact ⟨by congr 1; omega,by omega⟩
end Go.Proofs.YtflmllablfjfeaaDoor
namespace Go.Proofs.YtflmllablfjfeaaDoor
open Go.RowKit Go.HK Go.FR
set_option linter.unusedVariables false
set_option linter.unusedSimpArgs false
set_option linter.unusedSectionVars false
structure FrB (kind mask n k i B:Nat) (rel fs:List Nat) (g6 c6 gF:Nat) (W:World):Prop where
 ok:NthOk (decide (kind = 3)) mask n k i rel fs
 bx:W.heap[B]? = some (.cells #[.int .u8 (kind:Int),.int .i64 (n:Int),.slice (some ⟨g6,0,none⟩) n c6,.int .i64 0,.slice (some ⟨gF,0,none⟩) k k,.slice none 0 0,.slice none 0 0] 30 (0,0))
 m:IsM (fun q => q < W.heap.size) W (hdN n k g6 c6 gF) (mdlN kind n (pqN k) rel fs)
 hg:g6 < W.heap.size
theorem FrB.up {kind mask n k i B:Nat} {rel fs:List Nat} {g6 c6 gF:Nat} {W W':World} (h:FrB kind mask n k i B rel fs g6 c6 gF W) (hB:Below W.heap.size W W'):FrB kind mask n k i B rel fs g6 c6 gF W' :=
 ⟨h.ok,(hB.block _ (HK.blk_lt h.bx)).trans h.bx,h.m.below hB,Nat.lt_of_lt_of_le h.hg hB.size⟩
theorem app_ne {y:Value} {gg N:Nat} {o:Option Nat} (hat:some gg = y.ownBlock ∨ some gg = some N) (h1:y.ownBlock ≠ o) (h2:∀ g,o = some g -> g < N):some gg ≠ o:=by
 rcases hat with h | h
 ·rw [h]; exact h1
 ·intro e
  have h3:=h2 gg e.symm
  have h4:gg = N:=Option.some.inj h
  omega
theorem own_blk {W:World} {b e size n:Nat} {v:Value} {xs:List Value} (h:W.ownsRow b e size v n xs) {g:Nat} (hg:v.ownBlock = some g):b <= g /\ g < W.heap.size:=by
 rcases h.2 with ⟨rfl,_⟩ | ⟨g',cap,cur,rfl,h1,h2,_⟩
 ·cases hg
 ·have e:g' = g:=Option.some.inj hg
  subst e
  exact ⟨h1,HK.blk_lt h2⟩
theorem grown_frm {W W':World} {y:Value} (h:W.grownBy W' y.ownBlock):HK.Frm (fun q => y.ownBlock = some q) W W':=(HK.Frm.refl _ W).grown h fun q hq => .inl hq
theorem fct_cell {kind mask n k i B:Nat} {rel fs:List Nat} {g6 c6 gF:Nat} {W:World} (h:FrB kind mask n k i B rel fs g6 c6 gF W) (hk:k <= 2) {t d:Nat} (hd:fs[t]? = some d):W.cell? ⟨gF,t * 3 + 2,none⟩ = some (.int .i64 (d:Int)):=by
 have ht:=(List.getElem?_eq_some_iff.1 hd).1
 rw [h.ok.len] at ht
 obtain ⟨s,hs⟩:∃ s,(pqN k)[t]? = some s:=⟨_,List.getElem?_eq_getElem (by rw [pqN_len hk]; exact ht)⟩
 have hf:(mdlN kind n (pqN k) rel fs).facts[t]? = some (s,(0:Int),(d:Int)):=by
  show (fcN (pqN k) fs)[t]? = _
  have hz:((pqN k).zip fs)[t]? = some (s,d):=List.getElem?_zip_eq_some.2 ⟨hs,hd⟩
  unfold fcN
  rw [List.getElem?_map,hz]
  rfl
 obtain ⟨g,o,e,_,_,_,c2,_⟩:=h.m.f.2 t _ hf
 cases e
 rw [Nat.zero_add] at c2
 exact c2
theorem w64_nat (m:Nat) (h:m <= 1000000000):wrap64 (m:Int) = (m:Int):=(IntWalk.i64_left _).symm.trans (IntWalk.i64_in _ (by omega))
set_option maxRecDepth 100000 in
set_option maxHeartbeats 16000000 in
theorem order_walk (w:World) (force:Bool) (cn fc sz pa pb:Nat) (hrw:IsRows w) (hcn:cn < 256) (hfc:fc < 256) (hsz:sz < 256) (ha:pa < 65536) (hb:pb < 65536) :
  Calls Tryd.prog 10 #[.bool force,.int .u8 (cn:Int),.int .u8 (fc:Int),.int .u8 (sz:Int),.int .u16 (pa:Int),.int .u16 (pb:Int)] w (RetW w true):=by
 have HAW:=Lib.hid (awake_call w hrw)
 obtain ⟨z,hz⟩:∃ z,z = sz % 3:=⟨_,rfl⟩
 obtain ⟨n,hn⟩:∃ n,n = 1 + z:=⟨_,rfl⟩
 obtain ⟨c8,hc8⟩:∃ c,c = cn % 8:=⟨_,rfl⟩
 obtain ⟨k,hk⟩:∃ k,k = fc % 3:=⟨_,rfl⟩
 obtain ⟨kind,hkind⟩:∃ q,q = if force then 3 else 4:=⟨_,rfl⟩
 obtain ⟨mask,hmask⟩:∃ q,q = if force then 0 else c8:=⟨_,rfl⟩
 have HZ:Hid ((sz:Int).tmod 3 = (z:Int)):=Lib.hid (by rw [hz]; exact (Int.ofNat_tmod sz 3).symm)
 have HC8:Hid ((cn:Int).tmod 8 = (c8:Int)):=Lib.hid (by rw [hc8]; exact (Int.ofNat_tmod cn 8).symm)
 have HKF:Hid ((fc:Int).tmod 3 = (k:Int)):=Lib.hid (by rw [hk]; exact (Int.ofNat_tmod fc 3).symm)
 have HNA:Hid (wrap64 (1 + (wrap64 (sz:Int)).tmod 3) = (n:Int)):=Lib.hid (by
  rw [w64_nat sz (Nat.le_trans (Nat.le_of_lt hsz) (by decide)),HZ.out,show 1 + (z:Int) = (n:Int) by rw [hn]; simp]
  exact w64_nat n (by rw [hn,hz]; have:=Nat.mod_lt sz (show 3 > 0 by decide); omega))
 have HK34:Hid (kind = 3 ∨ kind = 4):=Lib.hid (by rw [hkind]; cases force <;> simp)
 have HM8:Hid (mask < 8):=Lib.hid (by rw [hmask]; cases force <;> simp <;> omega)
 have HM0:Hid (kind = 3 -> mask = 0):=Lib.hid (by rw [hkind,hmask]; cases force <;> simp)
 have HFK:Hid (decide (kind = 3) = force):=Lib.hid (by rw [hkind]; cases force <;> simp)
 have HNN:Hid (1 <= n /\ n <= 3):=Lib.hid (by omega)
 have HK2:Hid (k <= 2):=Lib.hid (by omega)
 have HKD:=Lib.hid hkind
 have HMK:=Lib.hid hmask
 clear hz hn hc8 hk hkind hmask hrw hcn hfc hsz
 go_enter Tryd.func10,Tryd.ntmps10
 go_upto_region 3 with (go_at_call 12; ((with_reducible refine HAW.out.mono ?_); rintro _ w1 ⟨rfl,hB1⟩; have HB1:=Lib.hid hB1; clear hB1))
 have rc:=HC8.out
 go_upto_if 46 with (fail)
 rw [HNA.out]
 clear rc
 go_cut [1,13] from 46 to 46 (fun v1 v13 wx => v1 = .int .u8 (mask:Int) /\ v13 = .int .u8 (kind:Int) /\ Below w.heap.size w wx)
 case first =>
  cases force
  ·obtain rfl:kind = 4:=HKD.out
   obtain rfl:mask = c8:=HMK.out
   go_wp2_with (fail)
   go_meet
   exact ⟨rfl,rfl,HB1.out⟩
  ·obtain rfl:kind = 3:=HKD.out
   obtain rfl:mask = 0:=HMK.out
   go_wp2_with (fail)
   go_meet
   exact ⟨rfl,rfl,HB1.out⟩
 case rest =>
  obtain ⟨rfl,rfl,hBc⟩:=hcut
  have rk:=HKF.out
  have k2:=HK2.out
  have k0:(0:Int) <= (k:Int):=by omega
  have k3:(k:Int) <= 2:=by omega
  have hN2:NmAt wc.heap.size (wc.alloc (.cells #[.string ⟨#[80]⟩,.string ⟨#[81]⟩] 9)):=HK.blk_new _ _
  have hB2:Below w.heap.size w (wc.alloc (.cells #[.string ⟨#[80]⟩,.string ⟨#[81]⟩] 9)):=hBc.alloc hBc.size _
  go_upto_region 8 with (fail)
  obtain ⟨w2,hw2⟩:∃ x,x = wc.alloc (.cells #[.string ⟨#[80]⟩,.string ⟨#[81]⟩] 9):=⟨_,rfl⟩
  obtain ⟨gN,hgN⟩:∃ g,g = wc.heap.size:=⟨_,rfl⟩
  rw [<- hw2,<- hgN] at hN2
  rw [<- hw2] at hB2 ⊢
  rw [<- hgN]
  have HN2:=Lib.hid hN2
  have HB2:=Lib.hid hB2
  clear hw2 hgN hN2 hB2 hBc rk k0 k3
  by_cases hbig:16384 < countS (decide (kind = 3)) mask k n
  ·obtain ⟨e1,e2,e3⟩:=many_only (fun h => HM0.out (of_decide_eq_true h)) HNN.out.1 HNN.out.2 k2 hbig
   have e4:kind = 4:=by rcases HK34.out with h | h; (rw [h] at e3; cases e3); exact h
   subst e1 e2 e4
   have HCN:Hid (∀ W,NmAt gN W -> Calls Tryd.prog 32 #[.int .u8 ((4:Nat):Int),.int .u8 (mask:Int),.slice (some ⟨gN,0,none⟩) 2 2,.int .i64 ((3:Nat):Int)] W (fun e w' => Below W.heap.size W w' /\ e = .returned (.tuple #[.int .i64 0,.int .i64 5]))):=Lib.hid fun W hW => by
    have h:=cnt_call W gN hW 4 mask 2 3 2 (.inr rfl) HM8.out (by omega) (by omega) (by omega) (by omega)
    unfold RetCt at h
    rw [if_pos hbig] at h
    exact h
   have HNE:Hid (∀ W,NmAt gN W -> Calls Tryd.prog 33 #[.int .u8 ((4:Nat):Int),.int .u8 (mask:Int),.slice (some ⟨gN,0,none⟩) 2 2,.int .i64 ((3:Nat):Int),.int .i64 0] W (RetNx W 5)):=Lib.hid fun W hW => nth_err W 4 mask 2 2 (some ⟨gN,0,none⟩) _ 0 5 (by omega) fun W' hB => (HCN.out W' (hW.up hB)).mono fun e w' h => ⟨h.1,0,h.2⟩
   unfold RetNx at HNE
   simp only [show ((4:Nat):Int) = 4 from rfl,show ((3:Nat):Int) = 3 from rfl,show ((5:Nat):Int) = 5 from rfl] at HCN HNE ⊢
   clear hbig e3
   go_upto_region 10 with (go_at_call 32; ((with_reducible refine (HCN.out _ HN2.out).mono ?_); rintro _ w3 ⟨hB3,rfl⟩; have HB3:=Lib.hid hB3; clear hB3))
   have HB33:=Lib.hid (HB2.out.trans (HB3.out.mono HB2.out.size))
   go_wp2_with (go_at_call 33; ((with_reducible refine (HNE.out _ (HN2.out.up HB3.out)).mono ?_); rintro _ w4 ⟨hB4,rfl⟩; have HB4:=Lib.hid (HB33.out.trans (hB4.mono HB33.out.size)); clear hB4))
   refine bodyPost_ret (v:=.bool true) (by simp [results,Tryd.results10,go_sem]) rfl ?_
   exact ⟨rfl,HB4.out.alloc HB4.out.size _⟩
  ·have hct:countS (decide (kind = 3)) mask k n <= 16384:=by omega
   have hpos:=count_pos (force:=decide (kind = 3)) (m:=mask) (n:=n) (k:=k) HM8.out (fun h => HM0.out (of_decide_eq_true h)) HNN.out.1 HNN.out.2
   obtain ⟨C,hC⟩:∃ C,C = countS (decide (kind = 3)) mask k n:=⟨_,rfl⟩
   have hC9:C <= 16384:=by rw [hC]; exact hct
   have hC1:1 <= C:=by rw [hC]; exact hpos
   have HCN:Hid (∀ W,NmAt gN W -> Calls Tryd.prog 32 #[.int .u8 (kind:Int),.int .u8 (mask:Int),.slice (some ⟨gN,0,none⟩) k 2,.int .i64 (n:Int)] W (fun e w' => Below W.heap.size W w' /\ e = .returned (.tuple #[.int .i64 (C:Int),.int .i64 0]))):=Lib.hid fun W hW => by
    have h:=cnt_call W gN hW kind mask k n 2 HK34.out HM8.out HM0.out HNN.out.1 HNN.out.2 HK2.out
    unfold RetCt at h
    rw [if_neg hbig,<- hC] at h
    exact h
   have HX:Hid (∀ W i,NmAt gN W -> i < C -> Calls Tryd.prog 33 #[.int .u8 (kind:Int),.int .u8 (mask:Int),.slice (some ⟨gN,0,none⟩) k 2,.int .i64 (n:Int),.int .i64 (i:Int)] W (fun e w' => Below W.heap.size W w' /\ ∃ rel fs g6 c6 gF,NthOk (decide (kind = 3)) mask n k i rel fs /\ e = .returned (.tuple #[.agg #[.int .u8 (kind:Int),.int .i64 (n:Int),.slice (some ⟨g6,0,none⟩) n c6,.int .i64 0,.slice (some ⟨gF,0,none⟩) k k,.slice none 0 0,.slice none 0 0],.int .i64 0]) /\ W.heap.size <= g6 /\ g6 < w'.heap.size /\ W.heap.size <= gF /\ gF < w'.heap.size /\ IsM (fun q => W.heap.size <= q /\ q < w'.heap.size) w' (hdN n k g6 c6 gF) (mdlN kind n (pqN k) rel fs))):=Lib.hid fun W i hW hi => nthX_call W gN hW kind mask k n 2 i HK34.out HM8.out HM0.out HNN.out.1 HNN.out.2 HK2.out hct (by rw [<- hC]; exact hi)
   have HZr:Hid (∀ W,NmAt gN W -> Calls Tryd.prog 33 #[.int .u8 (kind:Int),.int .u8 (mask:Int),.slice (some ⟨gN,0,none⟩) k 2,.int .i64 (n:Int),.int .i64 (C:Int)] W (RetNx W 6)):=Lib.hid fun W hW => by
    rw [hC]; exact nthZ_call W gN hW kind mask k n 2 HK34.out HM8.out HM0.out HNN.out.1 HNN.out.2 HK2.out hct
   unfold RetNx at HZr
   have hmA:andn mask 1 < 8:=Nat.lt_of_le_of_lt Nat.and_le_left HM8.out
   have HCL:Hid (∀ W,NmAt gN W -> Calls Tryd.prog 32 #[.int .u8 (kind:Int),.int .u8 ((andn mask 1:Nat):Int),.slice (some ⟨gN,0,none⟩) k 2,.int .i64 (n:Int)] W (fun e w' => Below W.heap.size W w' /\ ∃ c er:Int,e = .returned (.tuple #[.int .i64 c,.int .i64 er]) /\ (er = 0 -> (C:Int) <= c))):=Lib.hid fun W hW => by
    refine (cnt_call W gN hW kind (andn mask 1) k n 2 HK34.out hmA (fun h => by rw [HM0.out h]; rfl) HNN.out.1 HNN.out.2 HK2.out).mono ?_
    rintro e w' ⟨hB,rfl⟩
    refine ⟨hB,?_⟩
    by_cases h9:16384 < countS (decide (kind = 3)) (andn mask 1) k n
    ·rw [if_pos h9]; exact ⟨0,5,rfl,fun h => by cases h⟩
    ·rw [if_neg h9]
     refine ⟨_,_,rfl,fun _ => ?_⟩
     have hl:=count_less (force:=decide (kind = 3)) (m:=mask) (n:=n) (k:=k) (by have:=HM8.out; omega) (by have:=HNN.out.2; omega) (fun h => HM0.out (of_decide_eq_true h))
     have h8:C <= countS (decide (kind = 3)) (andn mask 1) k n:=by rw [hC]; unfold countS at h9 hct ⊢; omega
     omega
   have HAN:Hid (bits .andNot .u8 (mask:Int) 1 = ((andn mask 1:Nat):Int)):=Lib.hid (by
    have:=HM8.out
    rcases (by omega:mask = 0 ∨ mask = 1 ∨ mask = 2 ∨ mask = 3 ∨ mask = 4 ∨ mask = 5 ∨ mask = 6 ∨ mask = 7) with h | h | h | h | h | h | h | h <;> rw [h] <;> decide +kernel)
   obtain ⟨i,hi⟩:∃ i,i = pa % C:=⟨_,rfl⟩
   obtain ⟨j,hj⟩:∃ j,j = pb % C:=⟨_,rfl⟩
   have HIC:Hid (i < C):=Lib.hid (by rw [hi]; exact Nat.mod_lt _ (by omega))
   have HJC:Hid (j < C):=Lib.hid (by rw [hj]; exact Nat.mod_lt _ (by omega))
   have HIA:Hid ((pa:Int).tmod (C:Int) = (i:Int) /\ ¬ C = 0):=Lib.hid ⟨by rw [hi]; exact (Int.ofNat_tmod pa C).symm,by omega⟩
   have HJB:Hid ((pb:Int).tmod (C:Int) = (j:Int) /\ ¬ C = 0):=Lib.hid ⟨by rw [hj]; exact (Int.ofNat_tmod pb C).symm,by omega⟩
   have HWA:Hid (IntKind.i64.wrap (pa:Int) = (pa:Int) /\ IntKind.i64.wrap (pb:Int) = (pb:Int)):=Lib.hid ⟨IntWalk.i64_in _ (by omega),IntWalk.i64_in _ (by omega)⟩
   have HCS:=Lib.hid hC
   have HCT:=Lib.hid hct
   have HC9:=Lib.hid hC9
   clear hbig hct hpos hC hi hj hmA ha hb k2 hC9 hC1
   go_upto_region 12 with (go_at_call 32; ((with_reducible refine (HCN.out _ HN2.out).mono ?_); rintro _ w3 ⟨hB3,rfl⟩; have HB3:=Lib.hid hB3; clear hB3))
   have HNm:=Lib.hid (HN2.out.up HB3.out)
   have HBW:=Lib.hid (HB2.out.trans (HB3.out.mono HB2.out.size))
   clear HN2 HB2 HB3 HCN
   go_cut [20,21] from 93 to 100 (fun v20 v21 wx => v20 = .int .i64 (i:Int) /\ v21 = .int .i64 (j:Int) /\ Below w3.heap.size w3 wx)
   case first =>
    refine Go.RE.wp_region_eachg [93,94,95,96,97,98,99,100,20,21] (fun L x W => (Below w3.heap.size w3 W) /\ (L 0 = true -> x 93 = .int .u16 (pa:Int)) /\ (L 1 = true -> x 94 = .int .i64 (pa:Int)) /\ (L 2 = true -> x 95 = .int .i64 (C:Int)) /\ (L 3 = true -> x 96 = .int .i64 (i:Int)) /\ (L 4 = true -> x 97 = .int .u16 (pb:Int)) /\ (L 5 = true -> x 98 = .int .i64 (pb:Int)) /\ (L 6 = true -> x 99 = .int .i64 (C:Int)) /\ (L 7 = true -> x 100 = .int .i64 (j:Int)) /\ (L 8 = true -> x 20 = .int .i64 (i:Int)) /\ (L 9 = true -> x 21 = .int .i64 (j:Int))) (by kernel_rfl) (by kernel_rfl) (by kernel_rfl) ?_ ((Go.RE.Each.cons ?_ (Go.RE.Each.cons ?_ (Go.RE.Each.cons ?_ (Go.RE.Each.cons ?_ (Go.RE.Each.cons ?_ (Go.RE.Each.cons ?_ (Go.RE.Each.cons ?_ (Go.RE.Each.cons ?_ (Go.RE.Each.cons ?_ (Go.RE.Each.cons ?_ Go.RE.Each.nil))))))))))) ?_
    ·exact fun x => ⟨bl_dr (Below.refl _ _),nofun,nofun,nofun,nofun,nofun,nofun,nofun,nofun,nofun,nofun⟩
    ·intro L x a wR K hL hd hf hx hΦ hK
     obtain ⟨hI,f0,f1,f2,f3,f4,f5,f6,f7,f8,f9⟩:=hΦ
     refine ⟨fun _ => ?_,fun h => absurd h (by rw [Go.RE.wanted_none rfl]; decide)⟩
     have e4:a.tmps[4]? = some (.int .u16 (pa:Int)):=hf 4 (of_decide_eq_true (by kernel_rfl))
     clear hf hx hd
     go_simp
     refine hK _ _ ?_
     exact ⟨hI,fun _ => rfl,f1,f2,f3,f4,f5,f6,f7,f8,f9⟩
    ·intro L x a wR K hL hd hf hx hΦ hK
     obtain ⟨hI,f0,f1,f2,f3,f4,f5,f6,f7,f8,f9⟩:=hΦ
     refine ⟨fun _ => ?_,fun h => absurd h (by rw [Go.RE.wanted_none rfl]; decide)⟩
     have d0:=f0 (hd 0 (by kernel_rfl))
     have e93:a.tmps[93]? = some (x 93):=hx 0 _ 93 rfl rfl (hd 0 (by kernel_rfl))
     rw [d0] at e93
     have e2:=HWA.out.1
     clear hf hx hd
     go_simp
     refine hK _ _ ?_
     exact ⟨hI,f0,fun _ => rfl,f2,f3,f4,f5,f6,f7,f8,f9⟩
    ·intro L x a wR K hL hd hf hx hΦ hK
     obtain ⟨hI,f0,f1,f2,f3,f4,f5,f6,f7,f8,f9⟩:=hΦ
     refine ⟨fun _ => ?_,fun h => absurd h (by rw [Go.RE.wanted_none rfl]; decide)⟩
     have e16:a.tmps[16]? = some (.int .i64 (C:Int)):=hf 16 (of_decide_eq_true (by kernel_rfl))
     clear hf hx hd
     go_simp
     refine hK _ _ ?_
     exact ⟨hI,f0,f1,fun _ => rfl,f3,f4,f5,f6,f7,f8,f9⟩
    ·intro L x a wR K hL hd hf hx hΦ hK
     obtain ⟨hI,f0,f1,f2,f3,f4,f5,f6,f7,f8,f9⟩:=hΦ
     refine ⟨fun _ => ?_,fun h => absurd h (by rw [Go.RE.wanted_none rfl]; decide)⟩
     have d1:=f1 (hd 1 (by kernel_rfl))
     have e94:a.tmps[94]? = some (x 94):=hx 1 _ 94 rfl rfl (hd 1 (by kernel_rfl))
     rw [d1] at e94
     have d2:=f2 (hd 2 (by kernel_rfl))
     have e95:a.tmps[95]? = some (x 95):=hx 2 _ 95 rfl rfl (hd 2 (by kernel_rfl))
     rw [d2] at e95
     have r1:=HIA.out.1
     have r2:=HIA.out.2
     clear hf hx hd
     go_simp
     refine hK _ _ ?_
     exact ⟨hI,f0,f1,f2,fun _ => rfl,f4,f5,f6,f7,f8,f9⟩
    ·intro L x a wR K hL hd hf hx hΦ hK
     obtain ⟨hI,f0,f1,f2,f3,f4,f5,f6,f7,f8,f9⟩:=hΦ
     refine ⟨fun _ => ?_,fun h => absurd h (by rw [Go.RE.wanted_none rfl]; decide)⟩
     have e5:a.tmps[5]? = some (.int .u16 (pb:Int)):=hf 5 (of_decide_eq_true (by kernel_rfl))
     clear hf hx hd
     go_simp
     refine hK _ _ ?_
     exact ⟨hI,f0,f1,f2,f3,fun _ => rfl,f5,f6,f7,f8,f9⟩
    ·intro L x a wR K hL hd hf hx hΦ hK
     obtain ⟨hI,f0,f1,f2,f3,f4,f5,f6,f7,f8,f9⟩:=hΦ
     refine ⟨fun _ => ?_,fun h => absurd h (by rw [Go.RE.wanted_none rfl]; decide)⟩
     have d4:=f4 (hd 4 (by kernel_rfl))
     have e97:a.tmps[97]? = some (x 97):=hx 4 _ 97 rfl rfl (hd 4 (by kernel_rfl))
     rw [d4] at e97
     have e2:=HWA.out.2
     clear hf hx hd
     go_simp
     refine hK _ _ ?_
     exact ⟨hI,f0,f1,f2,f3,f4,fun _ => rfl,f6,f7,f8,f9⟩
    ·intro L x a wR K hL hd hf hx hΦ hK
     obtain ⟨hI,f0,f1,f2,f3,f4,f5,f6,f7,f8,f9⟩:=hΦ
     refine ⟨fun _ => ?_,fun h => absurd h (by rw [Go.RE.wanted_none rfl]; decide)⟩
     have e16:a.tmps[16]? = some (.int .i64 (C:Int)):=hf 16 (of_decide_eq_true (by kernel_rfl))
     clear hf hx hd
     go_simp
     refine hK _ _ ?_
     exact ⟨hI,f0,f1,f2,f3,f4,f5,fun _ => rfl,f7,f8,f9⟩
    ·intro L x a wR K hL hd hf hx hΦ hK
     obtain ⟨hI,f0,f1,f2,f3,f4,f5,f6,f7,f8,f9⟩:=hΦ
     refine ⟨fun _ => ?_,fun h => absurd h (by rw [Go.RE.wanted_none rfl]; decide)⟩
     have d5:=f5 (hd 5 (by kernel_rfl))
     have e98:a.tmps[98]? = some (x 98):=hx 5 _ 98 rfl rfl (hd 5 (by kernel_rfl))
     rw [d5] at e98
     have d6:=f6 (hd 6 (by kernel_rfl))
     have e99:a.tmps[99]? = some (x 99):=hx 6 _ 99 rfl rfl (hd 6 (by kernel_rfl))
     rw [d6] at e99
     have r1:=HJB.out.1
     have r2:=HJB.out.2
     clear hf hx hd
     go_simp
     refine hK _ _ ?_
     exact ⟨hI,f0,f1,f2,f3,f4,f5,f6,fun _ => rfl,f8,f9⟩
    ·intro L x a wR K hL hd hf hx hΦ hK
     obtain ⟨hI,f0,f1,f2,f3,f4,f5,f6,f7,f8,f9⟩:=hΦ
     refine ⟨fun _ => ?_,fun h => absurd h (by rw [Go.RE.wanted_none rfl]; decide)⟩
     have d3:=f3 (hd 3 (by kernel_rfl))
     have e96:a.tmps[96]? = some (x 96):=hx 3 _ 96 rfl rfl (hd 3 (by kernel_rfl))
     rw [d3] at e96
     clear hf hx hd
     go_simp
     refine hK _ _ ?_
     exact ⟨hI,f0,f1,f2,f3,f4,f5,f6,f7,fun _ => rfl,f9⟩
    ·intro L x a wR K hL hd hf hx hΦ hK
     obtain ⟨hI,f0,f1,f2,f3,f4,f5,f6,f7,f8,f9⟩:=hΦ
     refine ⟨fun _ => ?_,fun h => absurd h (by rw [Go.RE.wanted_none rfl]; decide)⟩
     have d7:=f7 (hd 7 (by kernel_rfl))
     have e100:a.tmps[100]? = some (x 100):=hx 7 _ 100 rfl rfl (hd 7 (by kernel_rfl))
     rw [d7] at e100
     clear hf hx hd
     go_simp
     refine hK _ _ ?_
     exact ⟨hI,f0,f1,f2,f3,f4,f5,f6,f7,f8,fun _ => rfl⟩
    ·rintro x W ⟨hI,f0,f1,f2,f3,f4,f5,f6,f7,f8,f9⟩
     simp only [Exit.then]
     go_step
     go_meet
     exact ⟨f8 rfl,f9 rfl,hI⟩
   case rest =>
    obtain ⟨rfl,rfl,hB⟩:=hcut
    have HNm:=Lib.hid (HNm.out.up hB)
    have HBW:=Lib.hid (HBW.out.trans (hB.mono HBW.out.size))
    clear hB
    go_upto_region 13 with (fail)
    go_cut [22,23] from 101 to 109 (fun v1 v2 wx => ∃ B rel fs g6 c6 gF,v1 = .pointer (some ⟨B,0,none⟩) /\ v2 = .int .i64 0 /\ FrB kind mask n k i B rel fs g6 c6 gF wx /\ Below wc.heap.size wc wx)
    case first =>
     go_wp2_with (go_at_call 33; ((with_reducible refine (HX.out _ _ HNm.out HIC.out).mono ?_); rintro _ w5 ⟨hB5,rel,fs,g6,c6,gF,hok,rfl,a1,a2,a3,a4,hM⟩))
     go_meet
     have hM2:IsM (fun q => q < w5.heap.size) w5 (hdN n k g6 c6 gF) (mdlN kind n (pqN k) rel fs):=hM.turn fun q hq => ⟨hq.2,rfl⟩
     exact ⟨_,rel,fs,g6,c6,gF,rfl,rfl,⟨hok,HK.blk_new _ _,hM2.below ((Below.refl _ w5).alloc (Nat.le_refl _) _),by simp; omega⟩,hB5.alloc hB5.size _⟩
    case rest =>
     obtain ⟨BX,relX,fsX,gX,cX,gFX,rfl,rfl,hF,hB⟩:=hcut
     have HNm:=Lib.hid (HNm.out.up hB)
     have HBW:=Lib.hid (HBW.out.trans (hB.mono HBW.out.size))
     clear hB
     have HFX:=Lib.hid hF
     clear hF
     go_upto_region 14 with (fail)
     go_cut [24,25] from 110 to 118 (fun v1 v2 wx => ∃ B rel fs g6 c6 gF,v1 = .pointer (some ⟨B,0,none⟩) /\ v2 = .int .i64 0 /\ FrB kind mask n k j B rel fs g6 c6 gF wx /\ Below wc.heap.size wc wx)
     case first =>
      go_wp2_with (go_at_call 33; ((with_reducible refine (HX.out _ _ HNm.out HJC.out).mono ?_); rintro _ w5 ⟨hB5,rel,fs,g6,c6,gF,hok,rfl,a1,a2,a3,a4,hM⟩))
      go_meet
      have hM2:IsM (fun q => q < w5.heap.size) w5 (hdN n k g6 c6 gF) (mdlN kind n (pqN k) rel fs):=hM.turn fun q hq => ⟨hq.2,rfl⟩
      exact ⟨_,rel,fs,g6,c6,gF,rfl,rfl,⟨hok,HK.blk_new _ _,hM2.below ((Below.refl _ w5).alloc (Nat.le_refl _) _),by simp; omega⟩,hB5.alloc hB5.size _⟩
     case rest =>
      obtain ⟨BY,relY,fsY,gY,cY,gFY,rfl,rfl,hF,hB⟩:=hcut
      have HNm:=Lib.hid (HNm.out.up hB)
      have HFX:=Lib.hid (HFX.out.up hB)
      have HBW:=Lib.hid (HBW.out.trans (hB.mono HBW.out.size))
      clear hB
      have HFY:=Lib.hid hF
      clear hF
      go_upto_region 15 with (fail)
      go_cut [26,27] from 119 to 124 (fun v1 v2 wx => v1 = .int .i64 (i:Int) /\ v2 = .int .i64 0 /\ Below wc.heap.size wc wx)
      case first =>
       have mX0:=HK.blk_cell HFX.out.bx 0
       have mX1:=HK.blk_cell HFX.out.bx 1
       have mX2:=HK.blk_cell HFX.out.bx 2
       have mX3:=HK.blk_cell HFX.out.bx 3
       have mX4:=HK.blk_cell HFX.out.bx 4
       have mX5:=HK.blk_cell HFX.out.bx 5
       have mX6:=HK.blk_cell HFX.out.bx 6
       have hq:=numX_call wc HK34.out HM8.out HM0.out HNN.out.1 HNN.out.2 HK2.out (by rw [<- HCS.out]; exact HC9.out) HFX.out.ok HFX.out.hg HFX.out.m
       simp only [Mdl.v,mdlN,hdN,SL.v] at hq
       have HQ:=Lib.hid hq
       clear hq
       go_wp2_with (go_at_call 34; ((with_reducible refine HQ.out.mono ?_); rintro _ w5 ⟨rfl,hB5⟩))
       go_meet
       exact ⟨rfl,rfl,hB5⟩
      case rest =>
       obtain ⟨rfl,rfl,hB⟩:=hcut
       have HNm:=Lib.hid (HNm.out.up hB)
       have HFX:=Lib.hid (HFX.out.up hB)
       have HFY:=Lib.hid (HFY.out.up hB)
       have HBW:=Lib.hid (HBW.out.trans (hB.mono HBW.out.size))
       clear hB
       go_upto_region 16 with (fail)
       go_cut [28,29] from 125 to 130 (fun v1 v2 wx => v1 = .int .i64 (j:Int) /\ v2 = .int .i64 0 /\ Below wc.heap.size wc wx)
       case first =>
        have mY0:=HK.blk_cell HFY.out.bx 0
        have mY1:=HK.blk_cell HFY.out.bx 1
        have mY2:=HK.blk_cell HFY.out.bx 2
        have mY3:=HK.blk_cell HFY.out.bx 3
        have mY4:=HK.blk_cell HFY.out.bx 4
        have mY5:=HK.blk_cell HFY.out.bx 5
        have mY6:=HK.blk_cell HFY.out.bx 6
        have hq:=numX_call wc HK34.out HM8.out HM0.out HNN.out.1 HNN.out.2 HK2.out (by rw [<- HCS.out]; exact HC9.out) HFY.out.ok HFY.out.hg HFY.out.m
        simp only [Mdl.v,mdlN,hdN,SL.v] at hq
        have HQ:=Lib.hid hq
        clear hq
        go_wp2_with (go_at_call 34; ((with_reducible refine HQ.out.mono ?_); rintro _ w5 ⟨rfl,hB5⟩))
        go_meet
        exact ⟨rfl,rfl,hB5⟩
       case rest =>
        obtain ⟨rfl,rfl,hB⟩:=hcut
        have HNm:=Lib.hid (HNm.out.up hB)
        have HFX:=Lib.hid (HFX.out.up hB)
        have HFY:=Lib.hid (HFY.out.up hB)
        have HBW:=Lib.hid (HBW.out.trans (hB.mono HBW.out.size))
        clear hB
        go_upto_region 17 with (fail)
        go_cut [31] from 131 to 139 (fun v1 wx => v1 = .int .i64 6 /\ Below wc.heap.size wc wx)
        case first =>
         go_wp2_with (go_at_call 33; ((with_reducible refine (HZr.out _ HNm.out).mono ?_); rintro _ w5 ⟨hB5,rfl⟩))
         go_meet
         exact ⟨rfl,hB5.alloc hB5.size _⟩
        case rest =>
         obtain ⟨rfl,hB⟩:=hcut
         have HNm:=Lib.hid (HNm.out.up hB)
         have HFX:=Lib.hid (HFX.out.up hB)
         have HFY:=Lib.hid (HFY.out.up hB)
         have HBW:=Lib.hid (HBW.out.trans (hB.mono HBW.out.size))
         clear hB
         go_upto_region 18 with (fail)
         go_cut [32,33] from 140 to 148 (fun v1 v2 wx => ∃ c er:Int,v1 = .int .i64 c /\ v2 = .int .i64 er /\ (er = 0 -> (C:Int) <= c) /\ Below wc.heap.size wc wx)
         case first =>
          have han:=HAN.out
          go_wp2_with (go_at_call 32; ((with_reducible refine (HCL.out _ HNm.out).mono ?_); rintro _ w5 ⟨hB5,c,er,rfl,hc⟩))
          go_meet
          exact ⟨c,er,rfl,rfl,hc,hB5⟩
         case rest =>
          obtain ⟨c,er,rfl,rfl,hce,hB⟩:=hcut
          have HNm:=Lib.hid (HNm.out.up hB)
          have HFX:=Lib.hid (HFX.out.up hB)
          have HFY:=Lib.hid (HFY.out.up hB)
          have HBW:=Lib.hid (HBW.out.trans (hB.mono HBW.out.size))
          clear hB
          have HCE:=Lib.hid hce
          clear hce
          go_upto_region 19 with (fail)
          go_cut [203] from 149 to 203 (fun v1 wx => v1 = .bool false /\ Below wc.heap.size wc wx)
          case first =>
           have mX0:=HK.blk_cell HFX.out.bx 0
           have mX1:=HK.blk_cell HFX.out.bx 1
           have mX2:=HK.blk_cell HFX.out.bx 2
           have mX3:=HK.blk_cell HFX.out.bx 3
           have mX4:=HK.blk_cell HFX.out.bx 4
           have mX5:=HK.blk_cell HFX.out.bx 5
           have mX6:=HK.blk_cell HFX.out.bx 6
           have hq:=validX_call wc HK34.out HM0.out HNN.out.1 HNN.out.2 HK2.out HFX.out.ok HFX.out.m
           simp only [Mdl.v,mdlN,hdN,SL.v] at hq
           have HV:=Lib.hid hq
           clear hq
           by_cases her:er = 0
           ·have hlt:¬ c < (C:Int):=by have:=HCE.out her; omega
            subst her
            go_wp2_with (first | (go_at_call 18; ((with_reducible refine HV.out.mono ?_); rintro _ w5 ⟨rfl,hB5⟩); have HB5:=Lib.hid hB5; have HF5:=Lib.hid (HFX.out.up hB5); have y2:=HK.blk_cell HF5.out.bx 2; have HFi:=Lib.hid (fitsX_call w5 HK34.out HM8.out HM0.out HNN.out.1 HNN.out.2 HF5.out.ok HF5.out.m); clear hB5) | (go_at_call 21; ((with_reducible refine HFi.out.mono ?_); rintro _ w6 ⟨rfl,hB6⟩); have HF6:=Lib.hid (HF5.out.up hB6); have z0:=HK.blk_cell HF6.out.bx 0; have z1:=HK.blk_cell HF6.out.bx 1; have HB6:=Lib.hid (HB5.out.trans (hB6.mono HB5.out.size)); clear hB6))
            go_meet
            exact ⟨by rw [decide_eq_false (by omega:¬ c < (C:Int))],HB6.out⟩
           ·have her2:(er == 0) = false:=by simpa using her
            go_wp2_with (first | (go_at_call 18; ((with_reducible refine HV.out.mono ?_); rintro _ w5 ⟨rfl,hB5⟩); have HB5:=Lib.hid hB5; have HF5:=Lib.hid (HFX.out.up hB5); have y2:=HK.blk_cell HF5.out.bx 2; have HFi:=Lib.hid (fitsX_call w5 HK34.out HM8.out HM0.out HNN.out.1 HNN.out.2 HF5.out.ok HF5.out.m); clear hB5) | (go_at_call 21; ((with_reducible refine HFi.out.mono ?_); rintro _ w6 ⟨rfl,hB6⟩); have HF6:=Lib.hid (HF5.out.up hB6); have z0:=HK.blk_cell HF6.out.bx 0; have z1:=HK.blk_cell HF6.out.bx 1; have HB6:=Lib.hid (HB5.out.trans (hB6.mono HB5.out.size)); clear hB6))
            go_meet
            exact ⟨rfl,HB6.out⟩
          case rest =>
           obtain ⟨rfl,hB⟩:=hcut
           have HNm:=Lib.hid (HNm.out.up hB)
           have HFX:=Lib.hid (HFX.out.up hB)
           have HFY:=Lib.hid (HFY.out.up hB)
           have HBW:=Lib.hid (HBW.out.trans (hB.mono HBW.out.size))
           clear hB
           clear HCE HCL HX HZr HAW
           go_upto_region 21 with (fail)
           go_cut [34,35] from 204 to 209 (fun v1 v2 wx => ∃ b0,b0 = wc.heap.size /\ wx.ownsRow wc.heap.size 3 1 v1 n (ints relX) /\ wx.ownsRow wc.heap.size 3 1 v2 n (ints relY) /\ v1.ownBlock ≠ v2.ownBlock /\ Below wc.heap.size wc wx)
           case first =>
            refine Go.RE.wp_region_eachg [204,205,206,207,208,209,34,35] (fun L x W => (Below wc.heap.size wc W) /\ (L 0 = true -> x 204 = .pointer (some ⟨BX,2,none⟩)) /\ (L 1 = true -> x 205 = .slice (some ⟨gX,0,none⟩) n cX) /\ (L 2 = true -> W.ownsRow wc.heap.size 3 1 (x 206) n (ints relX) /\ (true = L 5 -> (x 206).ownBlock ≠ (x 209).ownBlock)) /\ (L 3 = true -> x 207 = .pointer (some ⟨BY,2,none⟩)) /\ (L 4 = true -> x 208 = .slice (some ⟨gY,0,none⟩) n cY) /\ (L 5 = true -> W.ownsRow wc.heap.size 3 1 (x 209) n (ints relY) /\ (true = L 2 -> (x 206).ownBlock ≠ (x 209).ownBlock)) /\ (L 6 = true -> L 2 = true /\ x 34 = x 206) /\ (L 7 = true -> L 5 = true /\ x 35 = x 209)) (by kernel_rfl) (by kernel_rfl) (by kernel_rfl) ?_ ((Go.RE.Each.cons ?_ (Go.RE.Each.cons ?_ (Go.RE.Each.cons ?_ (Go.RE.Each.cons ?_ (Go.RE.Each.cons ?_ (Go.RE.Each.cons ?_ (Go.RE.Each.cons ?_ (Go.RE.Each.cons ?_ Go.RE.Each.nil))))))))) ?_
            ·exact fun x => ⟨bl_dr (Below.refl _ _),nofun,nofun,nofun,nofun,nofun,nofun,nofun,nofun⟩
            ·intro L x a wR K hL hd hf hx hΦ hK
             obtain ⟨hI,f0,f1,f2,f3,f4,f5,f6,f7⟩:=hΦ
             refine ⟨fun _ => ?_,fun h => absurd h (by rw [Go.RE.wanted_none rfl]; decide)⟩
             have e22:a.tmps[22]? = some (.pointer (some ⟨BX,0,none⟩)):=hf 22 (of_decide_eq_true (by kernel_rfl))
             clear hf hx hd
             go_simp
             refine hK _ _ ?_
             exact ⟨hI,fun _ => rfl,f1,f2,f3,f4,f5,f6,f7⟩
            ·intro L x a wR K hL hd hf hx hΦ hK
             obtain ⟨hI,f0,f1,f2,f3,f4,f5,f6,f7⟩:=hΦ
             refine ⟨fun _ => ?_,fun h => absurd h (by rw [Go.RE.wanted_none rfl]; decide)⟩
             have d0:=f0 (hd 0 (by kernel_rfl))
             have e204:a.tmps[204]? = some (x 204):=hx 0 _ 204 rfl rfl (hd 0 (by kernel_rfl))
             rw [d0] at e204
             have c:=HK.blk_cell (HFX.out.up hI).bx 2
             clear hf hx hd
             go_simp
             refine hK _ _ ?_
             exact ⟨hI,f0,fun _ => rfl,f2,f3,f4,f5,f6,f7⟩
            ·intro L x a wR K hL hd hf hx hΦ hK
             obtain ⟨hI,f0,f1,f2,f3,f4,f5,f6,f7⟩:=hΦ
             refine ⟨fun _ => ?_,fun h => absurd h (by rw [Go.RE.wanted_none rfl]; decide)⟩
             have d1:=f1 (hd 1 (by kernel_rfl))
             have e205:a.tmps[205]? = some (x 205):=hx 1 _ 205 rfl rfl (hd 1 (by kernel_rfl))
             rw [d1] at e205
             clear hf hx hd
             go_simp
             go_at_call 35
             with_reducible refine (copy_call _ gX 0 n cX relX (isR_of_M (HFX.out.up hI).m) (rels_len HFX.out.ok.mem) (by have:=HNN.out.2; omega)).mono ?_
             rintro e w' ⟨v8,rfl,hB8,hown⟩
             rw [rels_len HFX.out.ok.mem] at hown
             obtain ⟨g8,c8,rfl,hg8,hl8⟩:=own_form9 hown HNN.out.1
             simp only
             refine hK _ _ ?_
             exact ⟨hI.trans (hB8.mono hI.size),f0,f1,fun _ => ⟨own_mono9 hown hI.size,fun h => by obtain ⟨g7,c7,e7,_,hl7⟩:=own_form9 (f5 h.symm).1 HNN.out.1; show some g8 ≠ (x 209).ownBlock; rw [e7]; intro he; have he2:g8 = g7:=Option.some.inj he; omega⟩,f3,f4,fun h => ⟨own_below9 (f5 h).1 hB8,fun _ => by obtain ⟨g7,c7,e7,_,hl7⟩:=own_form9 (f5 h).1 HNN.out.1; show some g8 ≠ (x 209).ownBlock; rw [e7]; intro he; have he2:g8 = g7:=Option.some.inj he; omega⟩,fun h => by have hh:=f6 h; simp [hL] at hh,fun h => (f7 h)⟩
            ·intro L x a wR K hL hd hf hx hΦ hK
             obtain ⟨hI,f0,f1,f2,f3,f4,f5,f6,f7⟩:=hΦ
             refine ⟨fun _ => ?_,fun h => absurd h (by rw [Go.RE.wanted_none rfl]; decide)⟩
             have e24:a.tmps[24]? = some (.pointer (some ⟨BY,0,none⟩)):=hf 24 (of_decide_eq_true (by kernel_rfl))
             clear hf hx hd
             go_simp
             refine hK _ _ ?_
             exact ⟨hI,f0,f1,f2,fun _ => rfl,f4,f5,f6,f7⟩
            ·intro L x a wR K hL hd hf hx hΦ hK
             obtain ⟨hI,f0,f1,f2,f3,f4,f5,f6,f7⟩:=hΦ
             refine ⟨fun _ => ?_,fun h => absurd h (by rw [Go.RE.wanted_none rfl]; decide)⟩
             have d3:=f3 (hd 3 (by kernel_rfl))
             have e207:a.tmps[207]? = some (x 207):=hx 3 _ 207 rfl rfl (hd 3 (by kernel_rfl))
             rw [d3] at e207
             have c:=HK.blk_cell (HFY.out.up hI).bx 2
             clear hf hx hd
             go_simp
             refine hK _ _ ?_
             exact ⟨hI,f0,f1,f2,f3,fun _ => rfl,f5,f6,f7⟩
            ·intro L x a wR K hL hd hf hx hΦ hK
             obtain ⟨hI,f0,f1,f2,f3,f4,f5,f6,f7⟩:=hΦ
             refine ⟨fun _ => ?_,fun h => absurd h (by rw [Go.RE.wanted_none rfl]; decide)⟩
             have d4:=f4 (hd 4 (by kernel_rfl))
             have e208:a.tmps[208]? = some (x 208):=hx 4 _ 208 rfl rfl (hd 4 (by kernel_rfl))
             rw [d4] at e208
             clear hf hx hd
             go_simp
             go_at_call 35
             with_reducible refine (copy_call _ gY 0 n cY relY (isR_of_M (HFY.out.up hI).m) (rels_len HFY.out.ok.mem) (by have:=HNN.out.2; omega)).mono ?_
             rintro e w' ⟨v8,rfl,hB8,hown⟩
             rw [rels_len HFY.out.ok.mem] at hown
             obtain ⟨g8,c8,rfl,hg8,hl8⟩:=own_form9 hown HNN.out.1
             simp only
             refine hK _ _ ?_
             exact ⟨hI.trans (hB8.mono hI.size),f0,f1,fun h => ⟨own_below9 (f2 h).1 hB8,fun _ => by obtain ⟨g7,c7,e7,_,hl7⟩:=own_form9 (f2 h).1 HNN.out.1; show (x 206).ownBlock ≠ some g8; rw [e7]; intro he; have he2:g7 = g8:=Option.some.inj he; omega⟩,f3,f4,fun _ => ⟨own_mono9 hown hI.size,fun h => by obtain ⟨g7,c7,e7,_,hl7⟩:=own_form9 (f2 h.symm).1 HNN.out.1; show (x 206).ownBlock ≠ some g8; rw [e7]; intro he; have he2:g7 = g8:=Option.some.inj he; omega⟩,fun h => (f6 h),fun h => by have hh:=f7 h; simp [hL] at hh⟩
            ·intro L x a wR K hL hd hf hx hΦ hK
             obtain ⟨hI,f0,f1,f2,f3,f4,f5,f6,f7⟩:=hΦ
             refine ⟨fun _ => ?_,fun h => absurd h (by rw [Go.RE.wanted_none rfl]; decide)⟩
             have d2:=f2 (hd 2 (by kernel_rfl))
             have e206:a.tmps[206]? = some (x 206):=hx 2 _ 206 rfl rfl (hd 2 (by kernel_rfl))
             have l2:=hd 2 (by kernel_rfl)
             clear hf hx hd
             go_simp
             refine hK _ _ ?_
             exact ⟨hI,f0,f1,fun h => (f2 h),f3,f4,fun h => (f5 h),fun _ => ⟨l2,rfl⟩,fun h => (f7 h)⟩
            ·intro L x a wR K hL hd hf hx hΦ hK
             obtain ⟨hI,f0,f1,f2,f3,f4,f5,f6,f7⟩:=hΦ
             refine ⟨fun _ => ?_,fun h => absurd h (by rw [Go.RE.wanted_none rfl]; decide)⟩
             have d5:=f5 (hd 5 (by kernel_rfl))
             have e209:a.tmps[209]? = some (x 209):=hx 5 _ 209 rfl rfl (hd 5 (by kernel_rfl))
             have l5:=hd 5 (by kernel_rfl)
             clear hf hx hd
             go_simp
             refine hK _ _ ?_
             exact ⟨hI,f0,f1,fun h => (f2 h),f3,f4,fun h => (f5 h),fun h => (f6 h),fun _ => ⟨l5,rfl⟩⟩
            ·rintro x W ⟨hI,f0,f1,f2,f3,f4,f5,f6,f7⟩
             simp only [Exit.then]
             go_step
             go_meet
             have q2:=f2 (by kernel_rfl)
             have q5:=f5 (by kernel_rfl)
             have q6:=(f6 (by kernel_rfl)).2
             have q7:=(f7 (by kernel_rfl)).2
             rw [q6,q7]
             exact ⟨_,rfl,q2.1,q5.1,q2.2 (by kernel_rfl),hI⟩
           case rest =>
            obtain ⟨b0,hb0,ho1,ho2,hob,hB⟩:=hcut
            rw [<- hb0] at ho1 ho2 hB
            have HFXb:Hid (∀ W,Below b0 wc W -> FrB kind mask n k i BX relX fsX gX cX gFX W):=Lib.hid fun W h => HFX.out.up (by have h2:=hB.trans h; rwa [hb0] at h2)
            have HFYb:Hid (∀ W,Below b0 wc W -> FrB kind mask n k j BY relY fsY gY cY gFY W):=Lib.hid fun W h => HFY.out.up (by have h2:=hB.trans h; rwa [hb0] at h2)
            have HBWb:Hid (Below w.heap.size w wc /\ w.heap.size <= b0 /\ b0 <= wc.heap.size):=Lib.hid ⟨HBW.out.trans ((show Below _ _ wc by rw [hb0] at hB; exact hB).mono HBW.out.size),by rw [hb0]; exact HBW.out.size,by rw [hb0]; exact hB.size⟩
            have HO1:=Lib.hid ho1
            have HO2:=Lib.hid ho2
            have HOB:=Lib.hid hob
            have HOKX:=Lib.hid HFX.out.ok
            have HOKY:=Lib.hid HFY.out.ok
            clear ho1 ho2 hob hB hb0 HFX HFY HBW HNm
            obtain ⟨wq,hwq⟩:∃ q:World,q = wc:=⟨_,rfl⟩
            subst hwq
            go_wp2_with (fail)
            go_loopw [34,35,212] (fun v1 v2 q wr => ∃ (t:Nat) (y1 y2:Value),y1 = v1 /\ y2 = v2 /\ q = .int .i64 t /\ t <= k /\ wr.ownsRow b0 3 1 y1 (n + t) (ints (relX ++ fsX.take t)) /\ wr.ownsRow b0 3 1 y2 (n + t) (ints (relY ++ fsY.take t)) /\ y1.ownBlock ≠ y2.ownBlock /\ Below b0 wq wr) (fun _ _ q _ => k - (intOf q).toNat)
            case atStart => exact ⟨0,_,_,rfl,rfl,rfl,by omega,by simpa using HO1.out,by simpa using HO2.out,HOB.out,Below.refl _ _⟩
            case round =>
             obtain ⟨t,y1,y2,rfl,rfl,rfl,htk,hy1,hy2,hyn,hB⟩:=hrel
             obtain ⟨XL,hXL⟩:∃ X,X = relX ++ fsX.take t:=⟨_,rfl⟩
             obtain ⟨YL,hYL⟩:∃ X,X = relY ++ fsY.take t:=⟨_,rfl⟩
             rw [<- hXL] at hy1
             rw [<- hYL] at hy2
             have HB:=Lib.hid hB
             have HY1:=Lib.hid hy1
             have HY2:=Lib.hid hy2
             have HYN:=Lib.hid hyn
             clear hB hy1 hy2 hyn
             by_cases htl:(t:Int) < (k:Int)
             ·obtain ⟨dx,hdx⟩:∃ d,fsX[t]? = some d:=⟨_,List.getElem?_eq_getElem (by rw [HOKX.out.len]; omega)⟩
              obtain ⟨dy,hdy⟩:∃ d,fsY[t]? = some d:=⟨_,List.getElem?_eq_getElem (by rw [HOKY.out.len]; omega)⟩
              have HDX:=Lib.hid hdx
              have HDY:=Lib.hid hdy
              have HXT:Hid (ints XL ++ [.int .i64 (dx:Int)] = ints (relX ++ fsX.take (t + 1))):=Lib.hid (by rw [take_one hdx,<- List.append_assoc,<- hXL]; simp [ints])
              have HYT:Hid (ints YL ++ [.int .i64 (dy:Int)] = ints (relY ++ fsY.take (t + 1))):=Lib.hid (by rw [take_one hdy,<- List.append_assoc,<- hYL]; simp [ints])
              have HTK:Hid ((0:Int) <= (t:Int) /\ (t:Int) < (k:Int)):=Lib.hid (by omega)
              have HTN:Hid (n <= 3 /\ t <= 2):=Lib.hid ⟨HNN.out.2,by have:=HK2.out; omega⟩
              have HVL:Hid (∀ g,y1.ownBlock = some g ∨ y2.ownBlock = some g -> g < wr.heap.size):=Lib.hid fun g hg => by rcases hg with h | h; exact (own_blk HY1.out h).2; exact (own_blk HY2.out h).2
              have t0:(0:Int) <= (t:Int):=by omega
              clear hdx hdy hXL hYL
              go_upto_block 1 with (fail)
              go_cut [34,35] from 214 to 232 (fun x1 x2 wx => wx.ownsRow b0 3 1 x1 (n + t + 1) (ints XL ++ [.int .i64 (dx:Int)]) /\ wx.ownsRow b0 3 1 x2 (n + t + 1) (ints YL ++ [.int .i64 (dy:Int)]) /\ x1.ownBlock ≠ x2.ownBlock /\ Below b0 wq wx)
              case first =>
               go_upto_region 25 with (fail)
               refine Go.RE.wp_region_eachh [215,216,217,218,219,220,221,222,223,224,225,226,227,228,229,230,231,232,34,35] (fun L x W => (Below b0 wq W /\ wr.heap.size <= W.heap.size /\ (L 8 = false -> W.ownsRow b0 3 1 y1 (n + t) (ints XL)) /\ (L 17 = false -> W.ownsRow b0 3 1 y2 (n + t) (ints YL))) /\ (L 0 = true -> x 215 = y1) /\ (L 1 = true -> x 216 = .pointer (some ⟨BX,4,none⟩)) /\ (L 2 = true -> x 217 = .slice (some ⟨gFX,0,none⟩) k k) /\ (L 3 = true -> x 218 = .int .i64 (t:Int)) /\ (L 4 = true -> x 219 = .pointer (some ⟨gFX,t * 3,none⟩)) /\ (L 5 = true -> x 220 = .pointer (some ⟨gFX,t * 3 + 2,none⟩)) /\ (L 6 = true -> x 221 = .int .i64 (dx:Int)) /\ (L 7 = true -> ∃ B,x 222 = .slice (some ⟨B,0,none⟩) 1 1 /\ wr.heap.size <= B /\ W.heap[B]? = some (.cells #[.int .i64 (dx:Int)] 3 (0,0))) /\ (L 8 = true -> L 0 = true /\ L 7 = true /\ W.ownsRow b0 3 1 (x 223) (n + t + 1) (ints XL ++ [.int .i64 (dx:Int)]) /\ (L 17 = false -> (x 223).ownBlock ≠ y2.ownBlock) /\ (true = L 17 -> (x 223).ownBlock ≠ (x 232).ownBlock)) /\ (L 9 = true -> x 224 = y2) /\ (L 10 = true -> x 225 = .pointer (some ⟨BY,4,none⟩)) /\ (L 11 = true -> x 226 = .slice (some ⟨gFY,0,none⟩) k k) /\ (L 12 = true -> x 227 = .int .i64 (t:Int)) /\ (L 13 = true -> x 228 = .pointer (some ⟨gFY,t * 3,none⟩)) /\ (L 14 = true -> x 229 = .pointer (some ⟨gFY,t * 3 + 2,none⟩)) /\ (L 15 = true -> x 230 = .int .i64 (dy:Int)) /\ (L 16 = true -> ∃ B,x 231 = .slice (some ⟨B,0,none⟩) 1 1 /\ wr.heap.size <= B /\ W.heap[B]? = some (.cells #[.int .i64 (dy:Int)] 3 (0,0))) /\ (L 17 = true -> L 9 = true /\ L 16 = true /\ W.ownsRow b0 3 1 (x 232) (n + t + 1) (ints YL ++ [.int .i64 (dy:Int)]) /\ (L 8 = false -> y1.ownBlock ≠ (x 232).ownBlock) /\ (true = L 8 -> (x 223).ownBlock ≠ (x 232).ownBlock)) /\ (L 18 = true -> L 0 = true /\ L 8 = true /\ x 34 = x 223) /\ (L 19 = true -> L 9 = true /\ L 17 = true /\ x 35 = x 232)) (by kernel_rfl) (by kernel_rfl) (by kernel_rfl) ?_ ((Go.RE.Each.cons ?_ (Go.RE.Each.cons ?_ (Go.RE.Each.cons ?_ (Go.RE.Each.cons ?_ (Go.RE.Each.cons ?_ (Go.RE.Each.cons ?_ (Go.RE.Each.cons ?_ (Go.RE.Each.cons ?_ (Go.RE.Each.cons ?_ (Go.RE.Each.cons ?_ (Go.RE.Each.cons ?_ (Go.RE.Each.cons ?_ (Go.RE.Each.cons ?_ (Go.RE.Each.cons ?_ (Go.RE.Each.cons ?_ (Go.RE.Each.cons ?_ (Go.RE.Each.cons ?_ (Go.RE.Each.cons ?_ (Go.RE.Each.cons ?_ (Go.RE.Each.cons ?_ Go.RE.Each.nil))))))))))))))))))))) ?_
               ·exact fun x => ⟨⟨bl_dr HB.out,Nat.le_refl _,fun _ => HY1.out,fun _ => HY2.out⟩,nofun,nofun,nofun,nofun,nofun,nofun,nofun,nofun,nofun,nofun,nofun,nofun,nofun,nofun,nofun,nofun,nofun,nofun,nofun,nofun⟩
               ·intro L x a wR K hL hd hf hx hy hΦ hK
                obtain ⟨hI,f0,f1,f2,f3,f4,f5,f6,f7,f8,f9,f10,f11,f12,f13,f14,f15,f16,f17,f18,f19⟩:=hΦ
                refine ⟨fun _ => ?_,fun h => absurd h (by rw [Go.RE.wanted_none rfl]; decide)⟩
                have hL18:L 18 = false:=by rcases e:L 18 with _ | _; rfl; have hh:=f18 e; simp [hL] at hh
                have e34:a.tmps[34]? = some (y1):=hy 18 _ 34 rfl rfl hL18
                clear hf hx hd hy
                go_simp
                refine hK _ _ ?_
                exact ⟨hI,fun _ => rfl,f1,f2,f3,f4,f5,f6,f7,fun h => by have hh:=f8 h; simp [hL] at hh,f9,f10,f11,f12,f13,f14,f15,f16,f17,fun h => by have hh:=f18 h; simp [hL] at hh,f19⟩
               ·intro L x a wR K hL hd hf hx hy hΦ hK
                obtain ⟨hI,f0,f1,f2,f3,f4,f5,f6,f7,f8,f9,f10,f11,f12,f13,f14,f15,f16,f17,f18,f19⟩:=hΦ
                refine ⟨fun _ => ?_,fun h => absurd h (by rw [Go.RE.wanted_none rfl]; decide)⟩
                have e22:a.tmps[22]? = some (.pointer (some ⟨BX,0,none⟩)):=hf 22 (of_decide_eq_true (by kernel_rfl))
                clear hf hx hd hy
                go_simp
                refine hK _ _ ?_
                exact ⟨hI,f0,fun _ => rfl,f2,f3,f4,f5,f6,f7,f8,f9,f10,f11,f12,f13,f14,f15,f16,f17,f18,f19⟩
               ·intro L x a wR K hL hd hf hx hy hΦ hK
                obtain ⟨hI,f0,f1,f2,f3,f4,f5,f6,f7,f8,f9,f10,f11,f12,f13,f14,f15,f16,f17,f18,f19⟩:=hΦ
                refine ⟨fun _ => ?_,fun h => absurd h (by rw [Go.RE.wanted_none rfl]; decide)⟩
                have d1:=f1 (hd 1 (by kernel_rfl))
                have e216:a.tmps[216]? = some (x 216):=hx 1 _ 216 rfl rfl (hd 1 (by kernel_rfl))
                rw [d1] at e216
                have c:=HK.blk_cell (HFXb.out _ hI.1).bx 4
                clear hf hx hd hy
                go_simp
                refine hK _ _ ?_
                exact ⟨hI,f0,f1,fun _ => rfl,f3,f4,f5,f6,f7,f8,f9,f10,f11,f12,f13,f14,f15,f16,f17,f18,f19⟩
               ·intro L x a wR K hL hd hf hx hy hΦ hK
                obtain ⟨hI,f0,f1,f2,f3,f4,f5,f6,f7,f8,f9,f10,f11,f12,f13,f14,f15,f16,f17,f18,f19⟩:=hΦ
                refine ⟨fun _ => ?_,fun h => absurd h (by rw [Go.RE.wanted_none rfl]; decide)⟩
                have e36:a.tmps[36]? = some (.int .i64 (t:Int)):=hf 36 (of_decide_eq_true (by kernel_rfl))
                clear hf hx hd hy
                go_simp
                refine hK _ _ ?_
                exact ⟨hI,f0,f1,f2,fun _ => rfl,f4,f5,f6,f7,f8,f9,f10,f11,f12,f13,f14,f15,f16,f17,f18,f19⟩
               ·intro L x a wR K hL hd hf hx hy hΦ hK
                obtain ⟨hI,f0,f1,f2,f3,f4,f5,f6,f7,f8,f9,f10,f11,f12,f13,f14,f15,f16,f17,f18,f19⟩:=hΦ
                refine ⟨fun _ => ?_,fun h => absurd h (by rw [Go.RE.wanted_none rfl]; decide)⟩
                have d2:=f2 (hd 2 (by kernel_rfl))
                have e217:a.tmps[217]? = some (x 217):=hx 2 _ 217 rfl rfl (hd 2 (by kernel_rfl))
                rw [d2] at e217
                have d3:=f3 (hd 3 (by kernel_rfl))
                have e218:a.tmps[218]? = some (x 218):=hx 3 _ 218 rfl rfl (hd 3 (by kernel_rfl))
                rw [d3] at e218
                have u1:=HTK.out.1
                have u2:=HTK.out.2
                clear hf hx hd hy
                go_simp
                refine hK _ _ ?_
                exact ⟨hI,f0,f1,f2,f3,fun _ => rfl,f5,f6,f7,f8,f9,f10,f11,f12,f13,f14,f15,f16,f17,f18,f19⟩
               ·intro L x a wR K hL hd hf hx hy hΦ hK
                obtain ⟨hI,f0,f1,f2,f3,f4,f5,f6,f7,f8,f9,f10,f11,f12,f13,f14,f15,f16,f17,f18,f19⟩:=hΦ
                refine ⟨fun _ => ?_,fun h => absurd h (by rw [Go.RE.wanted_none rfl]; decide)⟩
                have d4:=f4 (hd 4 (by kernel_rfl))
                have e219:a.tmps[219]? = some (x 219):=hx 4 _ 219 rfl rfl (hd 4 (by kernel_rfl))
                rw [d4] at e219
                clear hf hx hd hy
                go_simp
                refine hK _ _ ?_
                exact ⟨hI,f0,f1,f2,f3,f4,fun _ => rfl,f6,f7,f8,f9,f10,f11,f12,f13,f14,f15,f16,f17,f18,f19⟩
               ·intro L x a wR K hL hd hf hx hy hΦ hK
                obtain ⟨hI,f0,f1,f2,f3,f4,f5,f6,f7,f8,f9,f10,f11,f12,f13,f14,f15,f16,f17,f18,f19⟩:=hΦ
                refine ⟨fun _ => ?_,fun h => absurd h (by rw [Go.RE.wanted_none rfl]; decide)⟩
                have d5:=f5 (hd 5 (by kernel_rfl))
                have e220:a.tmps[220]? = some (x 220):=hx 5 _ 220 rfl rfl (hd 5 (by kernel_rfl))
                rw [d5] at e220
                have c:=fct_cell (HFXb.out _ hI.1) HK2.out HDX.out
                clear hf hx hd hy
                go_simp
                refine hK _ _ ?_
                exact ⟨hI,f0,f1,f2,f3,f4,f5,fun _ => rfl,f7,f8,f9,f10,f11,f12,f13,f14,f15,f16,f17,f18,f19⟩
               ·intro L x a wR K hL hd hf hx hy hΦ hK
                obtain ⟨hI,f0,f1,f2,f3,f4,f5,f6,f7,f8,f9,f10,f11,f12,f13,f14,f15,f16,f17,f18,f19⟩:=hΦ
                refine ⟨fun _ => ?_,fun h => absurd h (by rw [Go.RE.wanted_none rfl]; decide)⟩
                have d6:=f6 (hd 6 (by kernel_rfl))
                have e221:a.tmps[221]? = some (x 221):=hx 6 _ 221 rfl rfl (hd 6 (by kernel_rfl))
                rw [d6] at e221
                clear hf hx hd hy
                go_simp
                refine hK _ _ ?_
                exact ⟨⟨hI.1.alloc (Nat.le_trans HBWb.out.2.2 hI.1.size) _,by have:=hI.2.1; simp; omega,fun h => (hI.2.2.1 h).alloc _,fun h => (hI.2.2.2 h).alloc _⟩,f0,f1,f2,f3,f4,f5,f6,fun _ => ⟨wR.heap.size,rfl,hI.2.1,HK.blk_new _ _⟩,fun h => by have hh:=f8 h; simp [hL] at hh,f9,f10,f11,f12,f13,f14,f15,fun h => match (f16 h) with | ⟨B,a1,a2,a3⟩ => ⟨B,a1,a2,HK.blk_alloc a3 _⟩,fun h => ⟨(f17 h).1,(f17 h).2.1,(f17 h).2.2.1.alloc _,(f17 h).2.2.2.1,(f17 h).2.2.2.2⟩,fun h => (f18 h),fun h => (f19 h)⟩
               ·intro L x a wR K hL hd hf hx hy hΦ hK
                obtain ⟨hI,f0,f1,f2,f3,f4,f5,f6,f7,f8,f9,f10,f11,f12,f13,f14,f15,f16,f17,f18,f19⟩:=hΦ
                refine ⟨fun _ => ?_,fun h => absurd h (by rw [Go.RE.wanted_none rfl]; decide)⟩
                have d0:=f0 (hd 0 (by kernel_rfl))
                have e215:a.tmps[215]? = some (x 215):=hx 0 _ 215 rfl rfl (hd 0 (by kernel_rfl))
                rw [d0] at e215
                have d7:=f7 (hd 7 (by kernel_rfl))
                have e222:a.tmps[222]? = some (x 222):=hx 7 _ 222 rfl rfl (hd 7 (by kernel_rfl))
                have l0:=hd 0 (by kernel_rfl)
                have l7:=hd 7 (by kernel_rfl)
                clear hf hx hd hy
                obtain ⟨B,hB0,hB1,hBc⟩:=d7
                rw [hB0] at e222
                refine wp_app_any elem25 _ _ rfl y1 b0 (n + t) (ints XL) (ev e215) (hI.2.2.1 hL) ⟨B,0,none⟩ 1 1 [.int .i64 (dx:Int)] (ev e222) rfl (fun j u hj => by rw [addr_add0,HK.blk_cell hBc,List.getElem?_toArray]; exact hj) (by simp [Value.oneCell']) (by have:=HTN.out; simp only [maxLen]; omega) (by have:=HTN.out; omega) (Nat.le_trans HBWb.out.2.2 hI.1.size) ?_
                intro v' w' hown hgrow hnil hat
                obtain ⟨gg,cc,rfl,_,hglt⟩:=own_form9 hown (by omega)
                have hat:some gg = y1.ownBlock ∨ some gg = some wR.heap.size:=hat
                have FG:=grown_frm hgrow
                have hyl:=fun g hg => own_blk (hI.2.2.1 hL) (g:=g) hg
                refine hK _ _ ?_
                exact ⟨⟨hI.1.trans (FG.below (Nat.le_trans HBWb.out.2.2 hI.1.size) fun q hq => (hyl q hq).1),Nat.le_trans hI.2.1 FG.size,(fun h => by cases h),fun h => FG.owns (hI.2.2.2 h) fun g hg h2 => HYN.out (h2.trans hg.symm)⟩,f0,f1,f2,f3,f4,f5,f6,fun h => match (f7 h) with | ⟨B,a1,a2,a3⟩ => ⟨B,a1,a2,FG.heap a3 fun e => by have:=HVL.out B (.inl e); omega⟩,fun _ => ⟨l0,l7,hown,fun h => app_ne hat HYN.out fun g hg => (own_blk (hI.2.2.2 h) hg).2,fun h => app_ne hat ((f17 h.symm).2.2.2.1 hL) fun g hg => (own_blk (f17 h.symm).2.2.1 hg).2⟩,f9,f10,f11,f12,f13,f14,f15,fun h => match (f16 h) with | ⟨B,a1,a2,a3⟩ => ⟨B,a1,a2,FG.heap a3 fun e => by have:=HVL.out B (.inl e); omega⟩,fun h => ⟨(f17 h).1,(f17 h).2.1,FG.owns (f17 h).2.2.1 (fun g hg h2 => ((f17 h).2.2.2.1 hL) (h2.trans hg.symm)),(fun h => by cases h),fun _ => app_ne hat ((f17 h).2.2.2.1 hL) fun g hg => (own_blk (f17 h).2.2.1 hg).2⟩,fun h => by have hh:=f18 h; simp [hL] at hh,fun h => (f19 h)⟩
               ·intro L x a wR K hL hd hf hx hy hΦ hK
                obtain ⟨hI,f0,f1,f2,f3,f4,f5,f6,f7,f8,f9,f10,f11,f12,f13,f14,f15,f16,f17,f18,f19⟩:=hΦ
                refine ⟨fun _ => ?_,fun h => absurd h (by rw [Go.RE.wanted_none rfl]; decide)⟩
                have hL19:L 19 = false:=by rcases e:L 19 with _ | _; rfl; have hh:=f19 e; simp [hL] at hh
                have e35:a.tmps[35]? = some (y2):=hy 19 _ 35 rfl rfl hL19
                clear hf hx hd hy
                go_simp
                refine hK _ _ ?_
                exact ⟨hI,f0,f1,f2,f3,f4,f5,f6,f7,f8,fun _ => rfl,f10,f11,f12,f13,f14,f15,f16,fun h => by have hh:=f17 h; simp [hL] at hh,f18,fun h => by have hh:=f19 h; simp [hL] at hh⟩
               ·intro L x a wR K hL hd hf hx hy hΦ hK
                obtain ⟨hI,f0,f1,f2,f3,f4,f5,f6,f7,f8,f9,f10,f11,f12,f13,f14,f15,f16,f17,f18,f19⟩:=hΦ
                refine ⟨fun _ => ?_,fun h => absurd h (by rw [Go.RE.wanted_none rfl]; decide)⟩
                have e24:a.tmps[24]? = some (.pointer (some ⟨BY,0,none⟩)):=hf 24 (of_decide_eq_true (by kernel_rfl))
                clear hf hx hd hy
                go_simp
                refine hK _ _ ?_
                exact ⟨hI,f0,f1,f2,f3,f4,f5,f6,f7,f8,f9,fun _ => rfl,f11,f12,f13,f14,f15,f16,f17,f18,f19⟩
               ·intro L x a wR K hL hd hf hx hy hΦ hK
                obtain ⟨hI,f0,f1,f2,f3,f4,f5,f6,f7,f8,f9,f10,f11,f12,f13,f14,f15,f16,f17,f18,f19⟩:=hΦ
                refine ⟨fun _ => ?_,fun h => absurd h (by rw [Go.RE.wanted_none rfl]; decide)⟩
                have d10:=f10 (hd 10 (by kernel_rfl))
                have e225:a.tmps[225]? = some (x 225):=hx 10 _ 225 rfl rfl (hd 10 (by kernel_rfl))
                rw [d10] at e225
                have c:=HK.blk_cell (HFYb.out _ hI.1).bx 4
                clear hf hx hd hy
                go_simp
                refine hK _ _ ?_
                exact ⟨hI,f0,f1,f2,f3,f4,f5,f6,f7,f8,f9,f10,fun _ => rfl,f12,f13,f14,f15,f16,f17,f18,f19⟩
               ·intro L x a wR K hL hd hf hx hy hΦ hK
                obtain ⟨hI,f0,f1,f2,f3,f4,f5,f6,f7,f8,f9,f10,f11,f12,f13,f14,f15,f16,f17,f18,f19⟩:=hΦ
                refine ⟨fun _ => ?_,fun h => absurd h (by rw [Go.RE.wanted_none rfl]; decide)⟩
                have e36:a.tmps[36]? = some (.int .i64 (t:Int)):=hf 36 (of_decide_eq_true (by kernel_rfl))
                clear hf hx hd hy
                go_simp
                refine hK _ _ ?_
                exact ⟨hI,f0,f1,f2,f3,f4,f5,f6,f7,f8,f9,f10,f11,fun _ => rfl,f13,f14,f15,f16,f17,f18,f19⟩
               ·intro L x a wR K hL hd hf hx hy hΦ hK
                obtain ⟨hI,f0,f1,f2,f3,f4,f5,f6,f7,f8,f9,f10,f11,f12,f13,f14,f15,f16,f17,f18,f19⟩:=hΦ
                refine ⟨fun _ => ?_,fun h => absurd h (by rw [Go.RE.wanted_none rfl]; decide)⟩
                have d11:=f11 (hd 11 (by kernel_rfl))
                have e226:a.tmps[226]? = some (x 226):=hx 11 _ 226 rfl rfl (hd 11 (by kernel_rfl))
                rw [d11] at e226
                have d12:=f12 (hd 12 (by kernel_rfl))
                have e227:a.tmps[227]? = some (x 227):=hx 12 _ 227 rfl rfl (hd 12 (by kernel_rfl))
                rw [d12] at e227
                have u1:=HTK.out.1
                have u2:=HTK.out.2
                clear hf hx hd hy
                go_simp
                refine hK _ _ ?_
                exact ⟨hI,f0,f1,f2,f3,f4,f5,f6,f7,f8,f9,f10,f11,f12,fun _ => rfl,f14,f15,f16,f17,f18,f19⟩
               ·intro L x a wR K hL hd hf hx hy hΦ hK
                obtain ⟨hI,f0,f1,f2,f3,f4,f5,f6,f7,f8,f9,f10,f11,f12,f13,f14,f15,f16,f17,f18,f19⟩:=hΦ
                refine ⟨fun _ => ?_,fun h => absurd h (by rw [Go.RE.wanted_none rfl]; decide)⟩
                have d13:=f13 (hd 13 (by kernel_rfl))
                have e228:a.tmps[228]? = some (x 228):=hx 13 _ 228 rfl rfl (hd 13 (by kernel_rfl))
                rw [d13] at e228
                clear hf hx hd hy
                go_simp
                refine hK _ _ ?_
                exact ⟨hI,f0,f1,f2,f3,f4,f5,f6,f7,f8,f9,f10,f11,f12,f13,fun _ => rfl,f15,f16,f17,f18,f19⟩
               ·intro L x a wR K hL hd hf hx hy hΦ hK
                obtain ⟨hI,f0,f1,f2,f3,f4,f5,f6,f7,f8,f9,f10,f11,f12,f13,f14,f15,f16,f17,f18,f19⟩:=hΦ
                refine ⟨fun _ => ?_,fun h => absurd h (by rw [Go.RE.wanted_none rfl]; decide)⟩
                have d14:=f14 (hd 14 (by kernel_rfl))
                have e229:a.tmps[229]? = some (x 229):=hx 14 _ 229 rfl rfl (hd 14 (by kernel_rfl))
                rw [d14] at e229
                have c:=fct_cell (HFYb.out _ hI.1) HK2.out HDY.out
                clear hf hx hd hy
                go_simp
                refine hK _ _ ?_
                exact ⟨hI,f0,f1,f2,f3,f4,f5,f6,f7,f8,f9,f10,f11,f12,f13,f14,fun _ => rfl,f16,f17,f18,f19⟩
               ·intro L x a wR K hL hd hf hx hy hΦ hK
                obtain ⟨hI,f0,f1,f2,f3,f4,f5,f6,f7,f8,f9,f10,f11,f12,f13,f14,f15,f16,f17,f18,f19⟩:=hΦ
                refine ⟨fun _ => ?_,fun h => absurd h (by rw [Go.RE.wanted_none rfl]; decide)⟩
                have d15:=f15 (hd 15 (by kernel_rfl))
                have e230:a.tmps[230]? = some (x 230):=hx 15 _ 230 rfl rfl (hd 15 (by kernel_rfl))
                rw [d15] at e230
                clear hf hx hd hy
                go_simp
                refine hK _ _ ?_
                exact ⟨⟨hI.1.alloc (Nat.le_trans HBWb.out.2.2 hI.1.size) _,by have:=hI.2.1; simp; omega,fun h => (hI.2.2.1 h).alloc _,fun h => (hI.2.2.2 h).alloc _⟩,f0,f1,f2,f3,f4,f5,f6,fun h => match (f7 h) with | ⟨B,a1,a2,a3⟩ => ⟨B,a1,a2,HK.blk_alloc a3 _⟩,fun h => ⟨(f8 h).1,(f8 h).2.1,(f8 h).2.2.1.alloc _,(f8 h).2.2.2.1,(f8 h).2.2.2.2⟩,f9,f10,f11,f12,f13,f14,f15,fun _ => ⟨wR.heap.size,rfl,hI.2.1,HK.blk_new _ _⟩,fun h => by have hh:=f17 h; simp [hL] at hh,fun h => (f18 h),fun h => (f19 h)⟩
               ·intro L x a wR K hL hd hf hx hy hΦ hK
                obtain ⟨hI,f0,f1,f2,f3,f4,f5,f6,f7,f8,f9,f10,f11,f12,f13,f14,f15,f16,f17,f18,f19⟩:=hΦ
                refine ⟨fun _ => ?_,fun h => absurd h (by rw [Go.RE.wanted_none rfl]; decide)⟩
                have d9:=f9 (hd 9 (by kernel_rfl))
                have e224:a.tmps[224]? = some (x 224):=hx 9 _ 224 rfl rfl (hd 9 (by kernel_rfl))
                rw [d9] at e224
                have d16:=f16 (hd 16 (by kernel_rfl))
                have e231:a.tmps[231]? = some (x 231):=hx 16 _ 231 rfl rfl (hd 16 (by kernel_rfl))
                have l9:=hd 9 (by kernel_rfl)
                have l16:=hd 16 (by kernel_rfl)
                clear hf hx hd hy
                obtain ⟨B,hB0,hB1,hBc⟩:=d16
                rw [hB0] at e231
                refine wp_app_any elem25 _ _ rfl y2 b0 (n + t) (ints YL) (ev e224) (hI.2.2.2 hL) ⟨B,0,none⟩ 1 1 [.int .i64 (dy:Int)] (ev e231) rfl (fun j u hj => by rw [addr_add0,HK.blk_cell hBc,List.getElem?_toArray]; exact hj) (by simp [Value.oneCell']) (by have:=HTN.out; simp only [maxLen]; omega) (by have:=HTN.out; omega) (Nat.le_trans HBWb.out.2.2 hI.1.size) ?_
                intro v' w' hown hgrow hnil hat
                obtain ⟨gg,cc,rfl,_,hglt⟩:=own_form9 hown (by omega)
                have hat:some gg = y2.ownBlock ∨ some gg = some wR.heap.size:=hat
                have FG:=grown_frm hgrow
                have hyl:=fun g hg => own_blk (hI.2.2.2 hL) (g:=g) hg
                refine hK _ _ ?_
                exact ⟨⟨hI.1.trans (FG.below (Nat.le_trans HBWb.out.2.2 hI.1.size) fun q hq => (hyl q hq).1),Nat.le_trans hI.2.1 FG.size,fun h => FG.owns (hI.2.2.1 h) fun g hg h2 => HYN.out (hg.trans h2.symm),(fun h => by cases h)⟩,f0,f1,f2,f3,f4,f5,f6,fun h => match (f7 h) with | ⟨B,a1,a2,a3⟩ => ⟨B,a1,a2,FG.heap a3 fun e => by have:=HVL.out B (.inr e); omega⟩,fun h => ⟨(f8 h).1,(f8 h).2.1,FG.owns (f8 h).2.2.1 (fun g hg h2 => ((f8 h).2.2.2.1 hL) (hg.trans h2.symm)),(fun h => by cases h),fun _ => (app_ne hat ((f8 h).2.2.2.1 hL).symm fun g hg => (own_blk (f8 h).2.2.1 hg).2).symm⟩,f9,f10,f11,f12,f13,f14,f15,fun h => match (f16 h) with | ⟨B,a1,a2,a3⟩ => ⟨B,a1,a2,FG.heap a3 fun e => by have:=HVL.out B (.inr e); omega⟩,fun _ => ⟨l9,l16,hown,fun h => (app_ne hat HYN.out.symm fun g hg => (own_blk (hI.2.2.1 h) hg).2).symm,fun h => (app_ne hat ((f8 h.symm).2.2.2.1 hL).symm fun g hg => (own_blk (f8 h.symm).2.2.1 hg).2).symm⟩,fun h => (f18 h),fun h => by have hh:=f19 h; simp [hL] at hh⟩
               ·intro L x a wR K hL hd hf hx hy hΦ hK
                obtain ⟨hI,f0,f1,f2,f3,f4,f5,f6,f7,f8,f9,f10,f11,f12,f13,f14,f15,f16,f17,f18,f19⟩:=hΦ
                refine ⟨fun _ => ?_,fun h => absurd h (by rw [Go.RE.wanted_none rfl]; decide)⟩
                have d8:=f8 (hd 8 (by kernel_rfl))
                have e223:a.tmps[223]? = some (x 223):=hx 8 _ 223 rfl rfl (hd 8 (by kernel_rfl))
                have l8:=hd 8 (by kernel_rfl)
                have l0:=(f8 l8).1
                clear hf hx hd hy
                go_simp
                refine hK _ _ ?_
                exact ⟨hI,f0,f1,f2,f3,f4,f5,f6,fun h => (f7 h),fun h => (f8 h),f9,f10,f11,f12,f13,f14,f15,fun h => (f16 h),fun h => (f17 h),fun _ => ⟨l0,l8,rfl⟩,fun h => (f19 h)⟩
               ·intro L x a wR K hL hd hf hx hy hΦ hK
                obtain ⟨hI,f0,f1,f2,f3,f4,f5,f6,f7,f8,f9,f10,f11,f12,f13,f14,f15,f16,f17,f18,f19⟩:=hΦ
                refine ⟨fun _ => ?_,fun h => absurd h (by rw [Go.RE.wanted_none rfl]; decide)⟩
                have d17:=f17 (hd 17 (by kernel_rfl))
                have e232:a.tmps[232]? = some (x 232):=hx 17 _ 232 rfl rfl (hd 17 (by kernel_rfl))
                have l17:=hd 17 (by kernel_rfl)
                have l9:=(f17 l17).1
                clear hf hx hd hy
                go_simp
                refine hK _ _ ?_
                exact ⟨hI,f0,f1,f2,f3,f4,f5,f6,fun h => (f7 h),fun h => (f8 h),f9,f10,f11,f12,f13,f14,f15,fun h => (f16 h),fun h => (f17 h),fun h => (f18 h),fun _ => ⟨l9,l17,rfl⟩⟩
               ·rintro x W ⟨hI,f0,f1,f2,f3,f4,f5,f6,f7,f8,f9,f10,f11,f12,f13,f14,f15,f16,f17,f18,f19⟩
                try simp only [Exit.then]
                go_step
                try go_step
                go_meet
                have q8:=f8 (by kernel_rfl)
                have q17:=f17 (by kernel_rfl)
                have q18:=(f18 (by kernel_rfl)).2.2
                have q19:=(f19 (by kernel_rfl)).2.2
                rw [q18,q19]
                exact ⟨q8.2.2.1,q17.2.2.1,q8.2.2.2.2 (by kernel_rfl),hI.1⟩
              case rest =>
               obtain ⟨hr1,hr2,hrn,hB⟩:=hcut
               have HR1:=Lib.hid hr1
               have HR2:=Lib.hid hr2
               have HRN:=Lib.hid hrn
               have HB:=Lib.hid hB
               clear hr1 hr2 hrn hB
               have hk2:=HK2.out
               go_wp2_with (fail)
               go_roundw
               case rel => exact ⟨t + 1,_,_,rfl,rfl,by go_num,by omega,by have h:=HR1.out; rw [HXT.out] at h; exact h,by have h:=HR2.out; rw [HYT.out] at h; exact h,HRN.out,HB.out⟩
               case measure => simp [intOf]; omega
             ·obtain rfl:t = k:=by omega
              have hxl:XL = relX ++ fsX:=by rw [hXL,List.take_of_length_le (by rw [HOKX.out.len]; omega)]
              have hyl:YL = relY ++ fsY:=by rw [hYL,List.take_of_length_le (by rw [HOKY.out.len]; omega)]
              have HXL:=Lib.hid hxl
              have HYL:=Lib.hid hyl
              have HLX:Hid (XL.length = n + t):=Lib.hid (by rw [hxl,List.length_append,rels_len HOKX.out.mem,HOKX.out.len])
              have HLY:Hid (YL.length = n + t):=Lib.hid (by rw [hyl,List.length_append,rels_len HOKY.out.mem,HOKY.out.len])
              have HORD:Hid ((i < j -> LtL XL YL) /\ (j < i -> LtL YL XL) /\ (i = j -> XL = YL)):=Lib.hid (by
               have o1:=nth_order HOKX.out HOKY.out
               have o2:=nth_order HOKY.out HOKX.out
               rw [hxl,hyl]
               exact ⟨o1.1,o2.1,o1.2⟩)
              obtain ⟨q1,c1,rfl,_,hq1⟩:=own_form9 HY1.out (by have:=HNN.out.1; omega)
              obtain ⟨q2,c2,rfl,_,hq2⟩:=own_form9 HY2.out (by have:=HNN.out.1; omega)
              have HI1:=Lib.hid (isR_own HY1.out)
              have HI2:=Lib.hid (isR_own HY2.out)
              obtain ⟨N,hN⟩:∃ N,N = n + t:=⟨_,rfl⟩
              have hN9:N <= 5:=by have:=HNN.out.2; have:=HK2.out; omega
              have HNE:=Lib.hid hN
              have HBF:Hid (Below w.heap.size w wr):=Lib.hid (HBWb.out.1.trans (HB.out.mono HBWb.out.2.1))
              rw [<- hN] at HLX HLY ⊢
              clear hXL hYL hxl hyl hN HY1 HY2 HYN HO1 HO2 HOB HFXb HFYb hq1 hq2
              go_wp2_with (fail)
              obtain ⟨wz,hwz⟩:∃ q:World,q = wr:=⟨_,rfl⟩
              have HBZ:Hid (Below wz.heap.size wz wr):=Lib.hid (by rw [hwz]; exact Below.refl _ _)
              rw [<- hwz] at HI1 HI2 HBF
              clear hwz
              go_loopw [236] (fun q wx => ∃ u:Nat,q = .int .i64 u /\ u <= N /\ (∀ v,v < u -> XL[v]? = YL[v]?) /\ Below wz.heap.size wz wx) (fun q _ => N - (intOf q).toNat)
              case atStart => exact ⟨0,rfl,by omega,fun v hv => by omega,HBZ.out⟩
              case round =>
               obtain ⟨u,rfl,huN,hpre,hB⟩:=hrel
               have HPR:=Lib.hid hpre
               have HBu:=Lib.hid hB
               clear hpre hB
               by_cases hu:(u:Int) < (N:Int)
               ·have u0:(0:Int) <= (u:Int):=by omega
                obtain ⟨x,hx⟩:∃ x,XL[u]? = some x:=⟨_,List.getElem?_eq_getElem (by rw [HLX.out]; omega)⟩
                obtain ⟨y,hy⟩:∃ y,YL[u]? = some y:=⟨_,List.getElem?_eq_getElem (by rw [HLY.out]; omega)⟩
                have cx:=HI1.out.below HBu.out u x hx
                have cy:=HI2.out.below HBu.out u y hy
                rw [Nat.zero_add] at cx cy
                by_cases hxy:x = y
                ·subst hxy
                 have HPN:Hid (∀ v,v < u + 1 -> XL[v]? = YL[v]?):=Lib.hid fun v hv => by
                  by_cases hvu:v = u
                  ·subst hvu; rw [hx,hy]
                  ·exact HPR.out v (by omega)
                 have e1:((x:Int) != (x:Int)) = false:=by simp
                 clear hx hy
                 go_wp2_with (fail)
                 go_quiet (fail)
                 go_wp2_with (fail)
                 go_roundw
                 case rel => exact ⟨u + 1,by go_num,by omega,HPN.out,bl_drN HBu.out _⟩
                 case measure => simp [intOf]; omega
                ·have e1:((x:Int) != (y:Int)) = true:=by simp; omega
                 have hcase:((x:Int) < (y:Int) /\ (i:Int) < (j:Int)) ∨ (¬ (x:Int) < (y:Int) /\ ¬ (i:Int) < (j:Int)):=by
                  rcases Nat.lt_trichotomy i j with h | h | h
                  ·have:=(HORD.out.1 h).first HPR.out hx hy hxy; exact .inl ⟨by omega,by omega⟩
                  ·have:=HORD.out.2.2 h; rw [this,hy] at hx; exact absurd (Option.some.inj hx).symm hxy
                  ·have:=(HORD.out.2.1 h).first (fun v hv => (HPR.out v hv).symm) hy hx (fun e => hxy e.symm); exact .inr ⟨by omega,by omega⟩
                 clear hx hy hxy
                 rcases hcase with ⟨h1,h2⟩ | ⟨h1,h2⟩
                 all_goals
                  go_wp2_with (fail)
                  go_quiet (fail)
                  go_wp2_with (fail)
                  go_quiet (fail)
                  go_wp2_with (fail)
                  refine bodyPost_ret (v:=.bool true) (by simp [results,Tryd.results10,go_sem] <;> omega) rfl ?_
                  exact ⟨rfl,bl_drN (bl_drN (HBF.out.trans (HBu.out.mono HBF.out.size)) _) _⟩
               ·have hij:i = j:=by
                 have he:XL = YL:=List.ext_getElem? fun v => by
                  by_cases hv:v < u
                  ·exact HPR.out v hv
                  ·rw [List.getElem?_eq_none (by rw [HLX.out]; omega),List.getElem?_eq_none (by rw [HLY.out]; omega)]
                 rcases Nat.lt_trichotomy i j with h | h | h
                 ·exact absurd he (HORD.out.1 h).ne
                 ·exact h
                 ·exact absurd he.symm (HORD.out.2.1 h).ne
                have hij2:(i:Int) = (j:Int):=by omega
                go_wp2_with (fail)
                refine bodyPost_ret (v:=.bool true) (by simp [results,Tryd.results10,go_sem,hij2]) rfl ?_
                exact ⟨rfl,HBF.out.trans (HBu.out.mono HBF.out.size)⟩
end Go.Proofs.YtflmllablfjfeaaDoor
