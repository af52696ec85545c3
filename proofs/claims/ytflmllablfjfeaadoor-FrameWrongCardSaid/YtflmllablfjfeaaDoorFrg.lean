import Derived.Test.YtflmllablfjfeaaDoorFrf
import Derived.Laws.EntriesVeiled
import Derived.Deep.OwnRows
namespace Go.Proofs.YtflmllablfjfeaaDoor
open Go.RowKit Go.HK Go.FR Go.HRB Lib
set_option linter.unusedVariables false
set_option linter.unusedSimpArgs false
set_option linter.unusedSectionVars false
attribute [local go_sem] Oper.semAt_some wide_fn asked_wide wide_depth
theorem suits_call (w:World) (g o n c:Nat) (rel:List Nat) (hR:IsR w g o rel) (hn:rel.length = n) (hok:FrOk rel) (kind m l:Nat) (hm:m < 256) (hl:l < n) :
  Calls Tryd.prog 42 #[.int .u8 (kind:Int),.int .u8 (m:Int),.slice (some ⟨g,o,none⟩) n c,.int .i64 (l:Int)] w (RetB w (suitsB (decide (kind = 3)) m rel l)):=by
 by_cases h:kind = 3
 ·subst h
  exact suits_force w g o n c rel hR hn hok m l hm hl
 ·have:=suits_modal w g o n c rel hR hn hok kind m l h hm hl
  rw [decide_eq_false h]
  unfold suitsB
  rw [if_neg (by decide)]
  exact this
theorem frok_set {rel:List Nat} (h:FrOk rel) {w s:Nat} (hs:s < 2 ^ rel.length):FrOk (rel.set w s) :=
 ⟨by rw [List.length_set]; exact h.len,fun i x hx => by
  rw [List.length_set]
  rw [List.getElem?_set] at hx
  split at hx
  ·split at hx
   ·cases hx; exact hs
   ·cases hx
  ·exact h.lt i x hx⟩
def FrI (J:List (List Nat) -> World -> Prop) (Safe:World -> Nat -> Prop) (l b:Nat) (pre:List (List Nat)) (rel:List Nat) (z:Nat) (L:List (List Nat)) (W wr:World):Prop :=
 J (pre ++ L) wr /\ (∃ s,RowB b wr (rel.set z s)) /\ KeepB Safe l b W wr
set_option maxRecDepth 100000 in
set_option maxHeartbeats 4000000 in
theorem from_in (Safe:World -> Nat -> Prop) (l b Bs By Br Bk Bm Bf n kind mask N:Nat) (hmask:mask < 256) (J Jx:List (List Nat) -> World -> Prop) (hS:IsSafe b Safe J) (hJ:∀ s A C,J s A -> FB b A C -> J s C)
  (hY:∀ m pre x W,J pre W -> ToldR b n x W -> pre.length < N -> YieldAt Fence.wide m Tryd.prog l (encR b n x) W fun e W' => (e = .returned (.bool true) /\ J (pre ++ [x]) W' /\ Keep Safe l W W') ∨ (e = .returned (.bool false) /\ Jx (pre ++ [x]) W')) :
  ∀ (d k:Nat) (pre:List (List Nat)) (rel:List Nat) (W:World),d <= n -> J pre W -> FE Safe l b Bs By Br Bk Bm Bf n kind mask W -> ToldR b n rel W -> (∀ i,n - d <= i -> rel.getD i 0 = 0) -> pre.length + (relsD (decide (kind = 3)) mask n d rel).length <= N ->
   CallsIn Fence.wide k Tryd.prog 74 #[.int .i64 ((n - d:Nat):Int),.pointer (some ⟨Bs,0,none⟩),.pointer (some ⟨By,0,none⟩),.pointer (some ⟨Br,0,none⟩),.pointer (some ⟨Bk,0,none⟩),.pointer (some ⟨Bm,0,none⟩),.pointer (some ⟨Bf,0,none⟩)] W
    (RetF J Jx Safe l b pre rel (relsD (decide (kind = 3)) mask n d rel) W):=by
 intro d
 induction d with
 | zero =>
  intro k pre rel W hd hj hE hT hz hN
  exact from_leaf Safe l b Bs By Br Bk Bm Bf n kind mask N J Jx hY k pre rel W hj hE hT (by simp [relsD] at hN; omega)
 | succ d ih =>
  intro k pre rel W hd hj hE hT hz hN
  have IH:=hid ih
  clear ih hY
  obtain ⟨hlen,hok,hrow⟩:=hT
  have h4:n <= 4:=by have:=hok.len; omega
  obtain ⟨z,hzd⟩:∃ z,z = n - (d + 1):=⟨_,rfl⟩
  have hz1:n - d = z + 1:=by omega
  have hzn:z < n:=by omega
  have hrl:rel.set z 0 = rel:=by
   apply List.ext_getElem?
   intro i
   rw [List.getElem?_set]
   split
   ·rename_i e; subst e
    rw [if_pos (by omega)]
    have h1:=hz z (by omega)
    rw [List.getD_eq_getElem?_getD,List.getElem?_eq_getElem (by omega)] at h1
    rw [List.getElem?_eq_getElem (by omega)]
    simp only [Option.getD_some] at h1
    rw [h1]
   ·rfl
  have hD:relsD (decide (kind = 3)) mask n (d + 1) rel = relsK (decide (kind = 3)) mask n d rel (2 ^ n):=rfl
  rw [hD] at hN ⊢
  rw [<- hzd]
  have hsucc:=fun k => relsK_succ (decide (kind = 3)) mask n d rel k
  rw [<- hzd] at hsucc
  have HSUCC:=hid hsucc
  have HPRE:=hid (fun k h => relsK_prefix (decide (kind = 3)) mask n d rel (k:=k) (N:=2 ^ n) h)
  obtain ⟨LK,hLK⟩:∃ LK,LK = relsK (decide (kind = 3)) mask n d rel:=⟨_,rfl⟩
  rw [<- hLK] at HSUCC HPRE hN ⊢
  have f3:=(IntWalk.i64_left _).symm.trans (shl_wrap (k:=n) (by omega))
  have f3':=shl_wrap (k:=n) (by omega)
  obtain ⟨M,hM⟩:∃ M:Nat,M = 1 <<< n:=⟨_,rfl⟩
  have hMe:(2 ^ n:Nat) = M:=by rw [hM,Nat.one_shiftLeft]
  have hM16:M <= 16:=by rw [<- hMe]; exact pow_le4 h4
  rw [<- hM] at f3 f3'
  rw [hMe] at HPRE hN ⊢
  have hL0:LK 0 = []:=by rw [hLK]; rfl
  have HM:=hid (show M = 2 ^ n from hMe.symm)
  have hmin:min n 64 = n:=by omega
  have cs:=HK.blk_cell hE.hs 0
  have hzne:¬ (z:Int) = (n:Int):=by omega
  have hzne2:((z:Int) == (n:Int)) = false:=by simp; omega
  have HJ0:=hid hj
  have HE:=hid hE
  have HROW:=hid hrow
  have HOK:=hid hok
  have HLEN:=hid hlen
  have HRL:=hid hrl
  have HN:=hid hN
  have HL0:=hid hL0
  have HZ1:=hid hz1
  have HZ:=hid hz
  have HDN:=hid hd
  clear hj hE hrow hok hlen hrl hN hL0 hLK hM hMe hsucc hD hz1 hz hd hzd
  refine callsIn_wide.2 ?_
  go_enter Tryd.func74,Tryd.ntmps74
  go_wp2_with (fail)
  clear cs
  go_loopw [18] (fun i wr => ∃ kk:Nat,kk <= M /\ i = .int .i64 kk /\ FrI J Safe l b pre rel z (LK kk) W wr) (fun i _ => M - (intOf i).toNat)
  case atStart => exact ⟨0,Nat.zero_le _,rfl,by rw [HL0.out,List.append_nil]; exact HJ0.out,⟨0,by rw [HRL.out]; exact HROW.out⟩,KeepB.refl _ _ _ _⟩
  case round =>
   obtain ⟨kk,hkk,rfl,hjr,⟨s0,hrow⟩,hkeep⟩:=hrel
   have hEr:=HE.out.keep hkeep
   have cr:=HK.blk_cell hEr.hr 0
   have b0:(0:Int) <= (z:Int):=by omega
   have b1:(z:Int) < (n:Int):=by omega
   have hcz:wr.cell? ⟨b,z,none⟩ = some (.int .i64 ((s0:Nat):Int)):=by
    rw [HK.blk_cell hrow,List.getElem?_toArray,ints,List.getElem?_map,List.getElem?_set]
    simp [show z < rel.length by have:=HLEN.out; omega]
   have hfz:wr.frozen? ⟨b,z,none⟩ = false:=HK.blk_frozen hrow z
   by_cases hlt:(kk:Int) < (M:Int)
   ·have b2:(0:Int) <= (kk:Int):=by omega
    have HJR:=hid hjr
    have HKEEP:=hid hkeep
    have HER:=hid hEr
    have HRW:=hid hrow
    clear hjr hkeep hEr hrow
    go_upto_region 7 with (fail)
    obtain ⟨W2,hW2⟩:∃ W2,W2 = wr.setCell ⟨b,z,none⟩ (.int .i64 (kk:Int)):=⟨_,rfl⟩
    rw [<- hW2]
    have hfb:FB b wr W2:=by rw [hW2]; exact (HK.Frm.refl (fun k => k = b) wr).setCell (p:=⟨b,z,none⟩) (.inl rfl) _
    have hj2:=hJ _ _ _ HJR.out hfb
    have hk2:KeepB Safe l b wr W2:=KeepB.of_fb hS HJR.out hfb
    have hE2:=HER.out.keep hk2
    have hrow2:RowB b W2 (rel.set z kk):=by
     have:=RowB.set HRW.out z kk
     rw [List.set_set] at this
     rw [hW2]; exact this
    have hl2:(rel.set z kk).length = n:=by rw [List.length_set]; exact HLEN.out
    have hok2:FrOk (rel.set z kk):=frok_set HOK.out (by rw [HLEN.out,<- HM.out]; omega)
    have hsu:=suits_call W2 b 0 n n (rel.set z kk) hrow2.isR hl2 hok2 kind mask z hmask hzn
    obtain ⟨sb,hsb⟩:∃ sb,sb = suitsB (decide (kind = 3)) mask (rel.set z kk) z:=⟨_,rfl⟩
    rw [<- hsb] at hsu
    unfold RetB at hsu
    have ck:=HK.blk_cell hE2.hk 0
    have cm:=HK.blk_cell hE2.hm 0
    have cr2:=HK.blk_cell hE2.hr 0
    have HSU:=hid hsu
    have HSB:=hid hsb
    have HJ2:=hid hj2
    have HK2:=hid (HKEEP.out.trans hk2)
    have HE2:=hid hE2
    have HRW2:=hid hrow2
    have HOK2:=hid hok2
    have HL2:=hid hl2
    clear hsu hsb hj2 hk2 hE2 hrow2 hok2 hl2 hfb hW2 cr hcz hfz
    go_wp2_with (fail)
    (with_reducible refine HSU.out.mono ?_)
    rintro e W3 ⟨rfl,hB3⟩
    have hfb3:FB b W2 W3:=HK.Frm.of_below hB3 _
    have hj3:=hJ _ _ _ HJ2.out hfb3
    have hk3:KeepB Safe l b W2 W3:=KeepB.of_fb hS HJ2.out hfb3
    have hE3:=HE2.out.keep hk3
    have hrow3:RowB b W3 (rel.set z kk):=(hB3.block b (HK.blk_lt HRW2.out)).trans HRW2.out
    have cf:=HK.blk_cell hE3.hf 0
    have HJ3:=hid hj3
    have HK3:=hid (HK2.out.trans hk3)
    have HE3:=hid hE3
    have HRW3:=hid hrow3
    have hpr:=HPRE.out (kk + 1) (by omega)
    rw [HSUCC.out,<- HSB.out] at hpr
    have hsc:=HSUCC.out kk
    rw [<- HSB.out] at hsc
    have HPR:=hid hpr
    have HSC:=hid hsc
    clear hj3 hk3 hE3 hrow3 hfb3 hB3 hpr hsc ck cm cr2
    cases sb
    ·go_wp2_with (fail)
     go_roundw
     case rel => exact ⟨kk + 1,by omega,by go_num,by rw [HSC.out]; simpa using HJ3.out,⟨kk,HRW3.out⟩,HK3.out⟩
     case measure => simp [intOf]; omega
    ·obtain ⟨D,hD⟩:∃ D,D = relsD (decide (kind = 3)) mask n d (rel.set z kk):=⟨_,rfl⟩
     have hpr:=HPR.out
     have hsc:=HSC.out
     rw [if_pos rfl,<- hD] at hpr hsc
     have hih:=IH.out (k - 1) (pre ++ LK kk) (rel.set z kk) W3 (by have:=HDN.out; omega) HJ3.out HE3.out ⟨HL2.out,HOK2.out,HRW3.out⟩ (fun i hi => by
      rw [List.getD_eq_getElem?_getD,List.getElem?_set_ne (by have:=HZ1.out; omega),<- List.getD_eq_getElem?_getD]
      exact HZ.out i (by have:=HZ1.out; omega)) (by
      have h1:=hpr.length_le
      have h2:=HN.out
      rw [<- hD,List.length_append]
      rw [List.length_append] at h1
      omega)
     rw [<- hD,HZ1.out] at hih
     have hih2:=callsIn_wide.1 hih
     rw [show (((z + 1:Nat)):Int) = (z:Int) + 1 from rfl] at hih2
     unfold RetF at hih2
     have HIH:=hid hih2
     have HPR2:=hid hpr
     have HSC2:=hid hsc
     clear hih hih2 hpr hsc hD
     go_wp2_with (fail)
     (with_reducible refine HIH.out.mono ?_)
     rintro e W4 ⟨bb,rfl,hp⟩
     have HP:=hid hp
     clear hp
     cases bb
     ·go_wp2_with (fail)
      go_ret
      refine ⟨false,rfl,.inr ⟨rfl,?_⟩⟩
      rcases HP.out with ⟨h,_⟩ | ⟨_,ys,h1,h2⟩
      ·cases h
      ·exact ⟨LK kk ++ ys,((List.prefix_append_right_inj _).2 h1).trans HPR2.out,by rw [<- List.append_assoc]; exact h2⟩
     ·go_wp2_with (fail)
      go_roundw
      case rel =>
       rcases HP.out with ⟨_,h1,h2,h3⟩ | ⟨h,_⟩
       ·exact ⟨kk + 1,by omega,by go_num,by rw [HSC2.out,<- List.append_assoc]; exact h1,⟨kk,h2⟩,HK3.out.trans h3⟩
       ·cases h
      case measure => simp [intOf]; omega
   ·obtain rfl:kk = M:=by omega
    have HJR:=hid hjr
    have HKEEP:=hid hkeep
    have HER:=hid hEr
    have HRW:=hid hrow
    clear hjr hkeep hEr hrow
    go_wp2_with (fail)
    go_ret
    have hfb:FB b wr (wr.setCell ⟨b,z,none⟩ (.int .i64 (0:Int))):=(HK.Frm.refl (fun k => k = b) wr).setCell (p:=⟨b,z,none⟩) (.inl rfl) _
    have hr2:=RowB.set HRW.out z 0
    rw [List.set_set,HRL.out] at hr2
    exact ⟨true,rfl,.inl ⟨rfl,hJ _ _ _ HJR.out hfb,hr2,HKEEP.out.trans (KeepB.of_fb hS HJR.out hfb)⟩⟩
def relsL (force:Bool) (mask n:Nat):List (List Nat):=relsD force mask n n (List.replicate n 0)
theorem replicate_ok (n:Nat) (h:n <= 4):FrOk (List.replicate n 0) :=
 ⟨by simp [h],fun w s hs => by
  rw [List.getElem?_replicate] at hs
  split at hs
  ·cases hs; exact Nat.two_pow_pos _
  ·cases hs⟩
theorem made_row (n:Nat):madeCells #[.int .i64 0] n = (ints (List.replicate n 0)).toArray:=by
 apply Array.ext_getElem?
 intro i
 simp only [madeCells,ints,List.getElem?_toArray,List.map_replicate]
 by_cases h:i < n
 ·simp [h,Nat.mod_one]
 ·simp [h]
set_option maxRecDepth 100000 in
set_option maxHeartbeats 4000000 in
theorem relations_seq (k:Nat) (w:World) (Bs Bk Bm n kind mask:Nat) (hmask:mask < 256) (h4:n <= 4)
  (hs:w.heap[Bs]? = some (.cells #[.int .i64 (n:Int)] 3 (0,0))) (hk:w.heap[Bk]? = some (.cells #[.int .u8 (kind:Int)] 5 (0,0))) (hm:w.heap[Bm]? = some (.cells #[.int .u8 (mask:Int)] 5 (0,0))) :
  SeqB Fence.wide k Tryd.prog 73 #[.pointer (some ⟨Bs,0,none⟩),.pointer (some ⟨Bk,0,none⟩),.pointer (some ⟨Bm,0,none⟩)] (encR (w.heap.size + 3) n) (w.heap.size + 3) (ToldR (w.heap.size + 3) n) (fun j => j = Bs ∨ j = Bk ∨ j = Bm)
   (fun xs => xs = relsL (decide (kind = 3)) mask n) (fun pre => pre <+: relsL (decide (kind = 3)) mask n) (relsL (decide (kind = 3)) mask n).length w:=by
 obtain ⟨b,hb⟩:∃ b,b = w.heap.size + 3:=⟨_,rfl⟩
 rw [<- hb]
 intro Safe l J Jx W hW hWz hwl hlW hSafe hK hJ hJx hY h0
 obtain rfl:b = W.heap.size + 1:=by omega
 have hsW:=(hW.block _ (HK.blk_lt hs)).trans hs
 have hkW:=(hW.block _ (HK.blk_lt hk)).trans hk
 have hmW:=(hW.block _ (HK.blk_lt hm)).trans hm
 have ls:=HK.blk_lt hs
 have lk:=HK.blk_lt hk
 have lm:=HK.blk_lt hm
 have cs:∀ o,(W.alloc o).cell? ⟨Bs,0,none⟩ = some (.int .i64 (n:Int)):=fun o => HK.blk_cell (HK.blk_alloc hsW o) 0
 obtain ⟨WV,hWV⟩:∃ WV,WV = (((W.alloc (.cells #[.func (.yield l) #[] #[]] 80)).alloc (.cells (madeCells #[.int .i64 0] n) 3)).alloc (.cells #[.slice (some ⟨W.heap.size + 1,0,none⟩) n n] 25)).alloc (.cells #[.func (.func 74) #[] #[.pointer (some ⟨Bs,0,none⟩),.pointer (some ⟨W.heap.size,0,none⟩),.pointer (some ⟨W.heap.size + 2,0,none⟩),.pointer (some ⟨Bk,0,none⟩),.pointer (some ⟨Bm,0,none⟩),.pointer (some ⟨W.heap.size + 3,0,none⟩)]] 112):=⟨_,rfl⟩
 have hfb:FB (W.heap.size + 1) W WV:=by rw [hWV]; exact ((((HK.Frm.refl _ W).alloc _).alloc _).alloc _).alloc _
 have hz:WV.heap.size = W.heap.size + 4:=by rw [hWV]; simp
 have v0:WV.heap[W.heap.size]? = some (.cells #[.func (.yield l) #[] #[]] 80 (0,0)):=by rw [hWV]; exact HK.blk_alloc (HK.blk_alloc (HK.blk_alloc (HK.blk_new _ _) _) _) _
 have v1:WV.heap[W.heap.size + 1]? = some (.cells (madeCells #[.int .i64 0] n) 3 (0,0)):=by
  rw [hWV]
  refine HK.blk_alloc (HK.blk_alloc ?_ _) _
  have:=HK.blk_new (W.alloc (.cells #[.func (.yield l) #[] #[]] 80)) (.cells (madeCells #[.int .i64 0] n) 3)
  rwa [World.size_alloc] at this
 have v2:WV.heap[W.heap.size + 2]? = some (.cells #[.slice (some ⟨W.heap.size + 1,0,none⟩) n n] 25 (0,0)):=by
  rw [hWV]
  refine HK.blk_alloc ?_ _
  have:=HK.blk_new ((W.alloc (.cells #[.func (.yield l) #[] #[]] 80)).alloc (.cells (madeCells #[.int .i64 0] n) 3)) (.cells #[.slice (some ⟨W.heap.size + 1,0,none⟩) n n] 25)
  rwa [World.size_alloc,World.size_alloc] at this
 have v3:WV.heap[W.heap.size + 3]? = some (.cells #[.func (.func 74) #[] #[.pointer (some ⟨Bs,0,none⟩),.pointer (some ⟨W.heap.size,0,none⟩),.pointer (some ⟨W.heap.size + 2,0,none⟩),.pointer (some ⟨Bk,0,none⟩),.pointer (some ⟨Bm,0,none⟩),.pointer (some ⟨W.heap.size + 3,0,none⟩)]] 112 (0,0)):=by
  rw [hWV]
  have:=HK.blk_new (((W.alloc (.cells #[.func (.yield l) #[] #[]] 80)).alloc (.cells (madeCells #[.int .i64 0] n) 3)).alloc (.cells #[.slice (some ⟨W.heap.size + 1,0,none⟩) n n] 25)) (.cells #[.func (.func 74) #[] #[.pointer (some ⟨Bs,0,none⟩),.pointer (some ⟨W.heap.size,0,none⟩),.pointer (some ⟨W.heap.size + 2,0,none⟩),.pointer (some ⟨Bk,0,none⟩),.pointer (some ⟨Bm,0,none⟩),.pointer (some ⟨W.heap.size + 3,0,none⟩)]] 112)
  rwa [World.size_alloc,World.size_alloc,World.size_alloc] at this
 have hsf:∀ j,Safe W j -> Safe WV j:=fun j hj => hSafe.on _ _ _ _ h0 hfb hj
 have hnew:∀ j,W.heap.size <= j -> j < W.heap.size + 4 -> Safe WV j:=fun j h1 h2 => hSafe.new _ _ _ _ h0 hfb h1 (by omega)
 have hE:FE Safe l (W.heap.size + 1) Bs W.heap.size (W.heap.size + 2) Bk Bm (W.heap.size + 3) n kind mask WV:={
  hs:=HK.Frm.heap hfb hsW (by omega)
  hy:=v0
  hr:=v2
  hk:=HK.Frm.heap hfb hkW (by omega)
  hm:=HK.Frm.heap hfb hmW (by omega)
  hf:=v3
  sf:=fun j hj => by
   rcases hj with rfl | rfl | rfl | rfl | rfl | rfl
   ·exact ⟨hsf _ (hK _ (.inl rfl)),by omega,by omega⟩
   ·exact ⟨hnew _ (by omega) (by omega),by omega,by omega⟩
   ·exact ⟨hnew _ (by omega) (by omega),by omega,by omega⟩
   ·exact ⟨hsf _ (hK _ (.inr (.inl rfl))),by omega,by omega⟩
   ·exact ⟨hsf _ (hK _ (.inr (.inr rfl))),by omega,by omega⟩
   ·exact ⟨hnew _ (by omega) (by omega),by omega,by omega⟩
  sb:=⟨hnew _ (by omega) (by omega),by omega⟩ }
 have hrow:RowB (W.heap.size + 1) WV (List.replicate n 0):=by
  unfold RowB
  rw [v1,made_row]
 have hvis:=from_in Safe l (W.heap.size + 1) Bs W.heap.size (W.heap.size + 2) Bk Bm (W.heap.size + 3) n kind mask (relsL (decide (kind = 3)) mask n).length hmask J Jx hSafe hJ (fun m pre x W1 h1 h2 h3 => yield_depth (hY pre x W1 h1 h2 h3)) n (k - 1) [] (List.replicate n 0) WV (Nat.le_refl _) (hJ _ _ _ h0 hfb) hE ⟨by simp,replicate_ok n h4,hrow⟩ (fun i _ => by
  rw [List.getD_eq_getElem?_getD,List.getElem?_replicate]
  split <;> rfl) (by simp [relsL])
 rw [Nat.sub_self] at hvis
 have hvis2:=callsIn_wide.1 hvis
 rw [show ((0:Nat):Int) = 0 from rfl] at hvis2
 unfold RetF at hvis2
 rw [hWV] at hvis2
 have HV:=hid hvis2
 have hmk:=run_make_row' (P:=Tryd.prog) 25 3 (.int .i64 0) 8 Tryd.underlying25 info3 rfl .i64 .i64 n (by omega) (by omega)
 clear hvis hvis2 hE hrow v0 v1 v2 v3 hsf hnew hfb hz hWV hY h0 hK hsW hkW hmW hs hk hm hWz hb hW
 refine callsIn_wide.2 ?_
 show Calls Tryd.prog 73 #[.func (.yield l) #[] #[],.pointer (some ⟨Bs,0,none⟩),.pointer (some ⟨Bk,0,none⟩),.pointer (some ⟨Bm,0,none⟩)] W _
 go_enter Tryd.func73,Tryd.ntmps73
 go_wp2_with (fail)
 (with_reducible refine HV.out.mono ?_)
 rintro e W8 ⟨bb,rfl,hb⟩
 go_wp2_with (fail)
 go_end0
 rcases hb with ⟨_,h1,_,_⟩ | ⟨_,ys,h1,h2⟩
 ·exact ⟨⟨_,rfl⟩,.inl ⟨_,rfl,by unfold relsL; simpa using h1⟩⟩
 ·exact ⟨⟨_,rfl⟩,.inr ⟨ys,h1,by simpa using h2⟩⟩
set_option maxRecDepth 100000 in
set_option maxHeartbeats 1000000 in
theorem relations_call (w:World) (kind mask n:Nat):Calls Tryd.prog 58 #[.int .u8 (kind:Int),.int .u8 (mask:Int),.int .i64 (n:Int)] w fun e w' =>
  e = .returned (.func (.func 73) #[] #[.pointer (some ⟨w.heap.size + 2,0,none⟩),.pointer (some ⟨w.heap.size,0,none⟩),.pointer (some ⟨w.heap.size + 1,0,none⟩)]) /\
   w' = ((w.alloc (.cells #[.int .u8 (kind:Int)] 5)).alloc (.cells #[.int .u8 (mask:Int)] 5)).alloc (.cells #[.int .i64 (n:Int)] 3):=by
 go_enter Tryd.func58,Tryd.ntmps58
 go_wp2_with (fail)
 go_ret
 exact ⟨rfl,rfl⟩
end Go.Proofs.YtflmllablfjfeaaDoor
