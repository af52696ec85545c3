import Derived.Test.YtdobflpbkfkmgaaGreatDoorR6d
import Derived.Test.YtdobflpbkfkmgaaGreatDoorFms
namespace Go.Proofs.YtdobflpbkfkmgaaGreatDoor
open Go.RowKit Go.HK Go.FR Lib
set_option linter.unusedVariables false
set_option linter.unusedSimpArgs false
set_option linter.unusedSectionVars false
def plL:Ol -> Nat
 | .ok _ k => k
 | .bad k _ => k
def eL (M:Nat) (ts:List Tok) (x:Ol):An (List Fm):=if M < plL x then .bad (tkA ts M).p 50 else resL ts x
theorem endX_eL (M:Nat) (ts:List Tok) (y:Ot) (x:Ol) (h:(∃ k e,y = .bad k e /\ x = .bad k e) ∨ (∃ ob l k,y = .ok ob k /\ x = .ok l k)):endX false M ts y = ((anP (eL M ts x):Int),anE (eL M ts x)):=by
 have hp:plO y = plL x:=by
  rcases h with ⟨k,e,rfl,rfl⟩ | ⟨ob,l,k,rfl,rfl⟩ <;> rfl
 unfold endX eL
 rw [hp]
 by_cases hm:M < plL x
 ·rw [if_pos ⟨rfl,hm⟩,if_pos hm]; rfl
 ·rw [if_neg (fun hh => hm hh.2),if_neg hm]
  rcases h with ⟨k,e,rfl,rfl⟩ | ⟨ob,l,k,rfl,rfl⟩
  ·rfl
  ·simp only [resL]
   split <;> rfl
theorem eL_ok {M:Nat} {ts:List Tok} {x:Ol} {l:List Fm} (h:eL M ts x = .ok l):∃ k,x = .ok l k:=by
 unfold eL at h
 split at h
 ·cases h
 ·cases x with
  | bad k e => cases h
  | ok o k =>
   simp only [resL] at h
   split at h
   ·cases h; exact ⟨k,rfl⟩
   ·cases h
theorem eL_bad {M:Nat} {ts:List Tok} {x:Ol} {p:Nat} {e:Int} (hx:∀ k e,x = .bad k e -> e = 50 ∨ e = 51) (h:eL M ts x = .bad p e):e = 50 ∨ e = 51:=by
 unfold eL at h
 split at h
 ·cases h; exact .inl rfl
 ·cases x with
  | bad k e => cases h; rcases hx _ _ rfl with h | h <;> omega
  | ok o k =>
   simp only [resL] at h
   split at h <;> cases h
   exact .inl rfl
structure LsG (w:World) (L:List (Fm × SL × SL)) (v:Value) (wr:World):Prop where
 hB:Below w.heap.size w wr
 own:wr.ownsRow w.heap.size 28 4 v L.length (celF L)
 el:∀ p ∈ L,IsTs (fun j => SL' w.heap.size wr.heap.size j /\ some j ≠ v.ownBlock) wr p.2.1 p.1.args /\ IsFs (fun j => SL' w.heap.size wr.heap.size j /\ some j ≠ v.ownBlock) wr p.2.2 p.1.subs /\ p.1.op < 256 /\ p.1.name.size <= maxLen
theorem LsG.next {w:World} {L:List (Fm × SL × SL)} {v:Value} {wr:World} (h:LsG w L v wr) {w2 wa w3:World} {v':Value} {p:Fm × SL × SL} (h2:Below wr.heap.size wr w2) (ha:Below w2.heap.size w2 wa) (hp:IsTs (RN wr w2) w2 p.2.1 p.1.args /\ IsFs (RN wr w2) w2 p.2.2 p.1.subs /\ p.1.op < 256 /\ p.1.name.size <= maxLen)
  (ho:w3.ownsRow w.heap.size 28 4 v' (L.length + 1) (celF L ++ fmV p.1 p.2.1 p.2.2)) (hg:wa.grownBy w3 v.ownBlock) (hat:v'.ownBlock = v.ownBlock ∨ v'.ownBlock = some wa.heap.size):LsG w (L ++ [p]) v' w3:=by
 have hge:∀ j,v.ownBlock = some j -> w.heap.size <= j /\ j < wr.heap.size:=h.own.lt
 have hs0:=h.hB.size
 have hs2:=h2.size
 have hsa:=ha.size
 have hbl:∀ j,j < w2.heap.size -> some j ≠ v.ownBlock -> w3.heap[j]? = w2.heap[j]?:=fun j h3 h4 => (hg.block j (by omega) h4).trans (ha.block j h3)
 have hsz:w2.heap.size <= w3.heap.size:=Nat.le_trans hsa hg.size
 have hne:∀ j,j < w2.heap.size -> some j ≠ v.ownBlock -> some j ≠ v'.ownBlock:=fun j h1 h3 => by
  rcases hat with e | e
  ·rw [e]; exact h3
  ·rw [e]; intro e2; have:=Option.some.inj e2; omega
 have hBa:Below w.heap.size w wa:=(h.hB.trans (h2.mono hs0)).trans (ha.mono (by omega))
 refine ⟨hBa.grown hg (by omega) (fun j e => (hge j e).1),?_,fun q hq => ?_⟩
 ·rw [List.length_append,show celF (L ++ [p]) = celF L ++ fmV p.1 p.2.1 p.2.2 by simp [celF]]
  exact ho
 ·rcases List.mem_append.1 hq with hq | hq
  ·have hq:=h.el q hq
   have hT:∀ j,(SL' w.heap.size wr.heap.size j /\ some j ≠ v.ownBlock) -> (SL' w.heap.size w3.heap.size j /\ some j ≠ v'.ownBlock) /\ w3.heap[j]? = wr.heap[j]?:=fun j hj => by
    have h5:=Nat.lt_of_lt_of_le hj.1.2 hs2
    exact ⟨⟨⟨hj.1.1,Nat.lt_of_lt_of_le h5 hsz⟩,hne j h5 hj.2⟩,(hbl j h5 hj.2).trans (h2.block j hj.1.2)⟩
   exact ⟨hq.1.turn hT,hq.2.1.turn hT,hq.2.2⟩
  ·rw [List.mem_singleton] at hq
   subst hq
   have hT:∀ j,RN wr w2 j -> (SL' w.heap.size w3.heap.size j /\ some j ≠ v'.ownBlock) /\ w3.heap[j]? = w2.heap[j]?:=fun j hj => by
    have h1:=hj.1
    have h2':=hj.2
    have h6:some j ≠ v.ownBlock:=fun e => by have:=(hge j e.symm).2; omega
    exact ⟨⟨⟨by omega,by omega⟩,hne j h2' h6⟩,hbl j h2' h6⟩
   exact ⟨hp.1.turn hT,hp.2.1.turn hT,hp.2.2⟩
theorem LsG.value {w:World} {L:List (Fm × SL × SL)} {v:Value} {wr:World} (h:LsG w L v wr) (hn:1 <= L.length):∃ s:SL,v = s.v /\ IsFs (fun j => w.heap.size <= j /\ j < wr.heap.size) wr s (L.map (·.1)):=by
 obtain ⟨g',c',rfl,h1,h2⟩:=own_form9 h.own hn
 refine ⟨⟨some ⟨g',0,none⟩,L.length,c'⟩,rfl,fs_row L (fun i v hv => ?_) ⟨h1,h2⟩ (fun p hp => ?_) rfl⟩
 ·have hlt:i < L.length * 4:=by
   rw [<- h.own.1]
   exact (List.getElem?_eq_some_iff.1 hv).1
  rw [h.own.cellAt i hlt]
  exact hv
 ·have hq:=h.el p hp
  exact ⟨hq.1.turn fun j hj => ⟨hj.1,rfl⟩,hq.2.1.turn fun j hj => ⟨hj.1,rfl⟩,hq.2.2⟩
theorem runL_nometa {m m':Bool} {ts:List Tok} (h:∀ k,(tkA ts k).k ≠ 2) (N:Nat):∀ (n:Nat) (acc:List Fm) (k:Nat),runL m ts N n acc k = runL m' ts N n acc k
 | 0,_,_ => rfl
 | n + 1,acc,k => by
  unfold runL
  rw [run_nometa (m:=m) (m':=m') h N]
  cases run m' ts N (.bin 0) k 0 with
  | none => rfl
  | some y =>
   cases y with
   | bad k e => rfl
   | ok ob k2 => simp only []; rw [runL_nometa (m:=m) (m':=m') h N n (acc ++ [fmO ob]) (k2 + 1)]
theorem runL_mta {ts:List Tok} {M N N':Nat} (hM:Mta M ts):∀ (n:Nat) (acc:List Fm) (k:Nat) (x x':Ol) (n':Nat),k <= M -> runL true ts N n acc k = some x -> runL false ts N' n' acc k = some x' -> (M < plL x -> x' = .bad M 50) /\ (¬ M < plL x -> x' = x)
 | 0,_,_,_,_,_,_,h,_ => by cases h
 | n + 1,acc,k,x,x',0,_,_,h' => by cases h'
 | n + 1,acc,k,x,x',n' + 1,hk,h,h' => by
  unfold runL at h h'
  cases hy:run true ts N (.bin 0) k 0 with
  | none => rw [hy] at h; cases h
  | some y =>
   cases hy':run false ts N' (.bin 0) k 0 with
   | none => rw [hy'] at h'; cases h'
   | some y' =>
    have e:=run_det false ts hy' (run_mta hM N _ _ _ _ hk hy)
    subst e
    rw [hy] at h
    rw [hy'] at h'
    cases y with
    | bad k2 e =>
     cases h
     by_cases hh:M < k2
     ·rw [cut_gt (x:=.bad k2 e) hh] at h'
      cases h'
      exact ⟨fun _ => rfl,fun h => absurd hh h⟩
     ·rw [cut_bad e (by omega)] at h'
      cases h'
      exact ⟨fun h => absurd h hh,fun _ => rfl⟩
    | ok ob k2 =>
     by_cases hh:M < k2
     ·rw [cut_gt (x:=.ok ob k2) hh] at h'
      cases h'
      refine ⟨fun _ => rfl,fun hx => absurd ?_ hx⟩
      simp only at h
      split at h
      ·have:=runL_ge n _ _ _ h
       omega
      ·cases h; exact hh
     ·rw [cut_ok ob (by omega)] at h'
      simp only at h h'
      by_cases hc:txt ts k2 = [44]
      ·rw [if_pos hc] at h h'
       have hlt:=hM.lt (k:=k2) (by omega) hc (by decide)
       exact runL_mta hM n _ _ _ _ n' hlt h h'
      ·rw [if_neg hc] at h h'
       cases h
       cases h'
       exact ⟨fun h => absurd h hh,fun _ => rfl⟩
where
 runL_ge {ts:List Tok} {N:Nat}:∀ (n:Nat) (acc:List Fm) (k:Nat) (x:Ol),runL true ts N n acc k = some x -> k <= plL x
 | 0,_,_,_,h => by cases h
 | n + 1,acc,k,x,h => by
  unfold runL at h
  cases hy:run true ts N (.bin 0) k 0 with
  | none => rw [hy] at h; cases h
  | some y =>
   have h1:=run_ge true ts N _ _ _ _ hy
   rw [hy] at h
   cases y with
   | bad k2 e => cases h; exact h1
   | ok ob k2 =>
    simp only [plO] at h1
    simp only at h
    split at h
    ·have:=runL_ge n _ _ _ h; omega
    ·cases h; exact h1
def LfI (ts:List Tok) (z g N:Nat) (x:Ol) (w wr:World) (v8 v9 v10:Value):Prop :=
 ∃ (v:Value) (o nn c kk m:Nat) (L:List (Fm × SL × SL)),v = v8 /\ v9 = .slice (some ⟨g,o,none⟩) nn c /\ v10 = .int .i64 0 /\ SlT' z kk o nn c /\ L.length <= kk /\ runL true ts N m (L.map (·.1)) kk = some x /\ (∀ f ∈ L.map (·.1),nodesF f <= 1000000) /\ LsG w L v wr
set_option maxRecDepth 100000 in
set_option maxHeartbeats 4000000 in
theorem rforms_lexbad (w:World) (s:ByteArray) (hs:s.size <= 16384) {ts:List Tok} {p:Nat} {er:Int} (hL:LexL 0 (bys s) ts p er) (he:er ≠ 0):Calls Tryz.prog 18 #[.string s] w (RetLs w (.bad p er)):=by
 have hlx:=rlex_call w s hs hL
 have HLX:=hid hlx
 have HE:=hid he
 have e1:(er == 0) = false:=by simpa using he
 have e2:(er != 0) = true:=by simpa using he
 clear hlx hL he
 go_enter Tryz.func18,Tryz.ntmps18
 go_wp2_with (fail)
 go_at_call 35
 with_reducible refine HLX.out.mono ?_
 rintro E w2 ⟨hB2,h⟩
 rcases h with ⟨h0,_⟩ | ⟨hne,rfl⟩
 ·exact absurd h0 HE.out
 have HB2:=hid hB2
 clear hB2 hne
 go_wp2_with (fail)
 refine bodyPost_ret (v:=.tuple #[.slice none 0 0,.int .i64 (p:Int),.int .i64 er]) (by simp [results,Tryz.results18,go_sem]) rfl ?_
 exact ⟨HB2.out,rfl⟩
set_option maxRecDepth 100000 in
set_option maxHeartbeats 4000000 in
theorem rforms_none (w:World) (s:ByteArray) (hs:s.size <= 16384) {ts:List Tok} {p:Nat} (hL:LexL 0 (bys s) ts p 0) (h1:ts.length = 1):Calls Tryz.prog 18 #[.string s] w (RetLs w (.ok [])):=by
 have hlx:=rlex_call w s hs hL
 unfold RetLx at hlx
 rw [h1] at hlx
 have HLX:=hid hlx
 clear hlx hL h1
 go_enter Tryz.func18,Tryz.ntmps18
 go_wp2_with (fail)
 go_at_call 35
 with_reducible refine HLX.out.mono ?_
 rintro E w2 ⟨hB2,h⟩
 rcases h with ⟨_,g,c,rfl,htk,hg,hg2,hnc⟩ | ⟨hne,_⟩
 case inr => exact absurd rfl hne
 have HB2:=hid hB2
 clear hB2 htk hg hg2 hnc
 go_wp2_with (fail)
 refine bodyPost_ret (v:=.tuple #[.slice none 0 0,.int .i64 0,.int .i64 0]) (by simp [results,Tryz.results18,go_sem]) rfl ?_
 exact ⟨HB2.out,_,rfl,⟨none,0,0⟩,rfl,.nil _ _⟩
set_option maxRecDepth 100000 in
set_option maxHeartbeats 16000000 in
theorem rforms_ok (w:World) (s:ByteArray) (hs:s.size <= 16384) {ts:List Tok} {p N n M:Nat} {x:Ol} (hL:LexL 0 (bys s) ts p 0) (hx:runL true ts N n [] 0 = some x) (hM:FstM ts (ts.length - 1) M) (h1:ts.length ≠ 1):Calls Tryz.prog 18 #[.string s] w (RetLs w (formsA (eL M ts x))):=by
 have hlx:=rlex_call w s hs hL
 have hT:=tsok_of_lex (l:=bys s) hs hL
 have HKD:=hid (lex_kinds hL)
 have hlen:=hT.en.len
 have HLEN:=hid hlen
 have HT:=hid hT
 have HM:=hid hM
 have HRUN:=hid hx
 have HLX:=hid hlx
 have H1:=hid h1
 clear hlx hL hT hx hM hlen h1
 go_enter Tryz.func18,Tryz.ntmps18
 go_wp2_with (fail)
 go_at_call 35
 with_reducible refine HLX.out.mono ?_
 rintro E w2 ⟨hB2,h⟩
 rcases h with ⟨_,g,c,rfl,htk,hg,hg2,hnc⟩ | ⟨hne,_⟩
 case inr => exact absurd rfl hne
 have hTR:TkR w2 g ts (ts.length - 1):=⟨htk,hg,HT.out,HKD.out⟩
 have hS:SlT' (ts.length - 1) 0 0 ts.length c:=⟨rfl,by have:=HLEN.out; omega,hnc,Nat.zero_le _⟩
 obtain ⟨z,hz⟩:∃ z,z = ts.length - 1:=⟨_,rfl⟩
 rw [<- hz] at hTR hS HM
 have HTR:=hid hTR
 have HS:=hid hS
 have HB2:=hid hB2
 have hI:LfI ts z g N x w2 w2 (.slice none 0 0) (.slice (some ⟨g,0,none⟩) ts.length c) (.int .i64 0):=⟨_,0,ts.length,c,0,n,[],rfl,rfl,rfl,hS,Nat.le_refl _,HRUN.out,fun f hf => (by cases hf),Below.refl _ _,World.ownsRow_nil _ _ _ _,fun p hp => by cases hp⟩
 have HI:=hid hI
 obtain ⟨N0,hN⟩:∃ N,N = ts.length:=⟨_,rfl⟩
 have hn1:¬ (N0:Int) = 1:=by have:=H1.out; omega
 have hn2:((N0:Int) == 1) = false:=by simpa using hn1
 have hz6:z <= 16384:=hTR.ok.le
 rw [<- hN] at HS HI ⊢
 clear hTR hS hB2 htk hg hg2 hnc hN hz hI
 go_wp2_with (fail)
 go_loopw [8,9,10] (fun v8 v9 v10 wr => LfI ts z g N x w2 wr v8 v9 v10) (fun v8 v9 v10 _ => nLen v9)
 case atStart => exact HI.out
 case round =>
  obtain ⟨v,o,nn,c0,kk,m,L,rfl,rfl,rfl,hS2,hlen,hrun,hnn0,hL⟩:=hrel
  have HL:=hid hL
  have HSL:=hid hS2
  have HNN0:=hid hnn0
  obtain ⟨m',rfl⟩:∃ m',m = m' + 1:=by
   cases m with
   | zero => cases hrun
   | succ m' => exact ⟨m',rfl⟩
  unfold runL at hrun
  obtain ⟨y,hy⟩:∃ y,run true ts N (.bin 0) kk 0 = some y:=by
   cases h:run true ts N (.bin 0) kk 0 with
   | none => rw [h] at hrun; cases hrun
   | some y => exact ⟨y,rfl⟩
  rw [hy] at hrun
  have hin:=run_iz HT.out.en N _ _ _ _ (show kk <= ts.length - 1 by have:=hS2.hk; have:=HTR.out.ok.en.len; omega) hy
  have hend:∀ ob k2,y = .ok ob k2 -> nodesF (fmO ob) <= 1000000:=fun ob k h => by
   rw [h] at hy hin
   have h1:=run_rd true ts N _ _ _ _ _ hy
   rw [ty_fm (rd_ty h1)] at h1
   have h2:=rd_nodes h1
   have h4:=HT.out.le
   simp only [inO] at hin
   simp only [nodesO,accN] at h2
   omega
  have HEND:=hid hend
  have HIN:=hid hin
  have HRUN2:=hid hrun
  have hbad:∀ k e,y = .bad k e -> e = 50 ∨ e = 51:=fun k e h => by rw [h] at hin; exact hin.2.2
  have HBAD:=hid hbad
  have hc2:=(doneR_all ts z g N).f0 kk 0 y hy wr o nn c0 (HTR.out.up hL.hB) hS2 (Nat.zero_le _)
  simp only [show (((0:Nat)):Int) = 0 from rfl] at hc2
  unfold RetRF at hc2
  have HC2:=hid hc2
  obtain ⟨N2,hN2⟩:∃ N,N = L.length:=⟨_,rfl⟩
  have hL6:N2 <= 16384:=by rw [hN2]; have:=hS2.hk; omega
  have HNL:Hid (L.length <= 16384 /\ N2 = L.length):=hid ⟨by omega,hN2⟩
  have HLK:=hid hlen
  clear hrun hy hin hend hbad hc2 hL hS2 hlen hnn0 hN2
  go_wp2_with (fail)
  go_at_call 43
  with_reducible refine HC2.out.mono ?_
  rintro _ w3 ⟨hB3,ro,rn,ra,rb,rc,rd,re,rf,o2,n2,c2,e2,rfl,her2,hsl2,hfm2⟩
  have HE2:=hid her2
  have HSL2:=hid hsl2
  have HF2:=hid hfm2
  have HB3:=hid hB3
  have hk8:=HK.blk_new w3 (.cells #[.int .u8 ro,.string rn,.slice ra rb rc,.slice rd re rf] 28)
  have h33:=hB3.size
  have h20:=HL.out.hB.size
  have H33:=hid h33
  have H20:=hid h20
  have HOW:Hid (w3.ownsRow w2.heap.size 28 4 v N2 (celF L)):=hid (by rw [HNL.out.2]; exact own_below HL.out.own hB3)
  clear her2 hsl2 hfm2 hB3 h33 h20
  go_upto_region 10 with (fail)
  obtain ⟨b8,hb8⟩:∃ b,b = w3.heap.size:=⟨_,rfl⟩
  rw [<- hb8] at hk8 ⊢
  obtain ⟨w3',hw3⟩:∃ x,x = w3.alloc (.cells #[.int .u8 ro,.string rn,.slice ra rb rc,.slice rd re rf] 28):=⟨_,rfl⟩
  rw [<- hw3] at hk8 ⊢
  have HW3:=hid hw3
  have HOW3:Hid (w3'.ownsRow w2.heap.size 28 4 v N2 (celF L)):=hid (by rw [hw3]; exact HOW.out.alloc _)
  have HBW3:Hid (Below w2.heap.size w2 w3'):=hid (by rw [hw3]; exact (HL.out.hB.trans (HB3.out.mono H20.out)).alloc (Nat.le_trans H20.out H33.out) _)
  clear hw3 hb8
  have y0:=HK.blk_cell hk8 0
  have y1:=HK.blk_cell hk8 1
  have y2:=HK.blk_cell hk8 2
  have y3:=HK.blk_cell hk8 3
  clear hk8
  cases y with
  | bad k2 e =>
   have hxx:x = .bad k2 e:=by have h:=HRUN2.out; cases h; rfl
   have HXX:=hid hxx
   have he:=HBAD.out _ _ rfl
   have he2:e2 = (e:Int):=HE2.out
   have hen:((e:Int) == 0) = false:=by simp; omega
   have hen2:((e:Int) != 0) = true:=by simp; omega
   obtain ⟨p',e',hea⟩:∃ p' e',eL M ts x = .bad p' e':=by
    unfold eL
    split
    ·exact ⟨_,_,rfl⟩
    ·rw [hxx]; exact ⟨_,_,rfl⟩
   have he':=eL_bad (fun k2 e h => by rw [hxx] at h; cases h; exact he) hea
   have he1':(e' == 0) = false:=by rcases he' with rfl | rfl <;> rfl
   have he2':(e' != 0) = true:=by rcases he' with rfl | rfl <;> rfl
   have HEA:=hid hea
   subst he2
   clear he he' hxx hea
   go_upto_region 14 with (at_builtin; (refine wpList_app_any rfl elem23 _ _ rfl v w2.heap.size N2 (celF L) rfl (HOW3.out.alloc _) ⟨w3'.heap.size,0,none⟩ 1 1 [.int .u8 ro,.string rn,.slice ra rb rc,.slice rd re rf] rfl rfl (fun i u hi => by rw [addr_add0,HK.blk_cell (HK.blk_new _ _),List.getElem?_toArray]; exact hi) (by intro u hu; simp at hu; rcases hu with rfl | rfl | rfl | rfl <;> rfl) (by simp only [maxLen]; omega) (by omega) (by have:=HBW3.out.size; simp; omega) ?_; intro v' w4 hown' hgrow _ hat; have HB4:=hid (((HBW3.out.alloc HBW3.out.size _).grown hgrow (by have:=HBW3.out.size; simp; omega) (fun i e => own_ge HOW3.out i e))); clear hown' hgrow hat))
   have hen4:=rended_call (w:=w4) false (HTR.out.up HB4.out) HS.out HSL2.out (fun k2 e h => HBAD.out k2 e h) HM.out
   rw [endX_eL M ts _ x (.inl ⟨_,_,rfl,HXX.out⟩),HEA.out] at hen4
   simp only [anP,anE,erO] at hen4
   have HEN:=hid hen4
   clear hen4 y0 y1 y2 y3
   go_wp2_with (go_at_call 37; ((with_reducible refine HEN.out.mono ?_); rintro _ w9 ⟨h9,rfl⟩; obtain rfl:=h9.symm; clear h9))
   refine bodyPost_ret (v:=.tuple #[.slice none 0 0,.int .i64 (p':Int),.int .i64 e']) (by simp [results,Tryz.results18,go_sem]) rfl ?_
   rw [HEA.out]
   exact ⟨HB2.out.trans (HB4.out.mono HB2.out.size),rfl⟩
  | ok ob k2 =>
   have he2:e2 = 0:=HE2.out
   subst he2
   have hval:ro = ((fmO ob).op:Int) /\ rn = (fmO ob).name /\ IsTs (RN wr w3) w3 ⟨ra,rb,rc⟩ (fmO ob).args /\ IsFs (RN wr w3) w3 ⟨rd,re,rf⟩ (fmO ob).subs /\ (fmO ob).op < 256 /\ (fmO ob).name.size <= maxLen:=by
    obtain ⟨sa,ss,hve,hva,hvs,hvo,hvz⟩:=HF2.out ob k2 rfl
    obtain ⟨sa1,sa2,sa3⟩:=sa
    obtain ⟨ss1,ss2,ss3⟩:=ss
    simp only [SL.v] at hve
    injection hve with hve
    simp only [Array.mk.injEq,List.cons.injEq,Value.int.injEq,Value.string.injEq,Value.slice.injEq,and_true,true_and] at hve
    obtain ⟨h1,h2,⟨h3,h4,h5⟩,h6,h7,h8⟩:=hve
    subst h3 h4 h5 h6 h7 h8
    exact ⟨h1,h2,hva,hvs,hvo,hvz⟩
   have HVAL:=hid hval
   have hkk:=HIN.out
   simp only [inO] at hkk
   have HKK:=hid hkk
   have hsl:SlT' z k2 o2 n2 c2:=HSL2.out
   have HSL3:=hid hsl
   have hsg:=fun (W:World) (hB:Below w2.heap.size w2 W) => rsg_call (HTR.out.up hB) hsl ⟨#[44]⟩ (by unfold Sg; decide)
   rw [show bys (⟨#[44]⟩:ByteArray) = [44] from rfl] at hsg
   have HCM:=hid hsg
   have HNX:Hid (∀ (w4:World) (v':Value),w4.ownsRow w2.heap.size 28 4 v' (N2 + 1) (celF L ++ [.int .u8 ro,.string rn,.slice ra rb rc,.slice rd re rf]) -> (w3'.alloc (.cells #[.int .u8 ro,.string rn,.slice ra rb rc,.slice rd re rf] 28)).grownBy w4 v.ownBlock -> (v'.ownBlock = v.ownBlock ∨ v'.ownBlock = some (w3'.alloc (.cells #[.int .u8 ro,.string rn,.slice ra rb rc,.slice rd re rf] 28)).heap.size) -> LsG w2 (L ++ [(fmO ob,⟨ra,rb,rc⟩,⟨rd,re,rf⟩)]) v' w4):=hid fun w4 v' ho hg hat => by
    refine HL.out.next (w2:=w3) (wa:=w3'.alloc (.cells #[.int .u8 ro,.string rn,.slice ra rb rc,.slice rd re rf] 28)) HB3.out ?_ HVAL.out.2.2 ?_ hg hat
    ·rw [HW3.out]
     exact (bl_al9 _).alloc (by simp) _
    ·rw [<- HNL.out.2]
     have e:fmV (fmO ob) ⟨ra,rb,rc⟩ ⟨rd,re,rf⟩ = [.int .u8 ro,.string rn,.slice ra rb rc,.slice rd re rf]:=by simp only [fmV,SL.v,<- HVAL.out.1,<- HVAL.out.2.1]
     rw [e]
     exact ho
   clear hval hkk hsl hsg
   go_upto_region 12 with (at_builtin; (refine wpList_app_any rfl elem23 _ _ rfl v w2.heap.size N2 (celF L) rfl (HOW3.out.alloc _) ⟨w3'.heap.size,0,none⟩ 1 1 [.int .u8 ro,.string rn,.slice ra rb rc,.slice rd re rf] rfl rfl (fun i u hi => by rw [addr_add0,HK.blk_cell (HK.blk_new _ _),List.getElem?_toArray]; exact hi) (by intro u hu; simp at hu; rcases hu with rfl | rfl | rfl | rfl <;> rfl) (by simp only [maxLen]; omega) (by omega) (by have:=HBW3.out.size; simp; omega) ?_; intro v' w4 hown' hgrow _ hat; have HN4:=hid (HNX.out w4 v' hown' hgrow hat); clear hown' hgrow hat))
   clear y0 y1 y2 y3
   have hcm:=HCM.out w4 HN4.out.hB
   have HC4:=hid hcm
   have hrun:=HRUN2.out
   simp only at hrun
   clear hcm
   by_cases h44:txt ts k2 = [44]
   case pos =>
    rw [if_pos h44] at hrun
    have HX:=hid hrun
    rw [decide_eq_true h44] at HC4
    have hk2z:k2 < z:=HTR.out.ok.en.lt HSL3.out.hk (by rw [h44]; decide)
    obtain ⟨hs3,a3,b3,d3,e3,f3⟩:=SlT'.next HSL3.out hk2z
    have HS3:=hid hs3
    clear hs3
    clear hrun h44 hk2z
    go_wp2_with ((go_at_call 44; ((with_reducible refine HC4.out.mono ?_); rintro _ w9 ⟨rfl,rfl⟩)))
    go_roundw
    case rel => exact ⟨_,o2 + 3,n2 - 1,c2 - 1,k2 + 1,m',L ++ [(fmO ob,⟨ra,rb,rc⟩,⟨rd,re,rf⟩)],rfl,rfl,rfl,HS3.out,by have:=HKK.out.1; have:=HLK.out; simp; omega,by rw [List.map_append]; exact HX.out,by
     intro f hf
     rw [List.map_append] at hf
     rcases List.mem_append.1 hf with hf | hf
     ·exact HNN0.out f hf
     ·rw [List.map_singleton,List.mem_singleton] at hf
      subst hf
      exact HEND.out ob k2 rfl,HN4.out⟩
    case measure =>
     have h1:=HS3.out.hn
     have h2:=HSL.out.hn
     have h3:=HKK.out
     simp only [nLen]
     omega
   rw [if_neg h44] at hrun
   rw [decide_eq_false h44] at HC4
   have hxx:x = .ok (L.map (·.1) ++ [fmO ob]) k2:=by cases hrun; rfl
   have hen4:=rended_call (w:=w4) false (HTR.out.up HN4.out.hB) HS.out HSL2.out (fun k2 e h => HBAD.out k2 e h) HM.out
   rw [endX_eL M ts _ x (.inr ⟨_,_,_,rfl,hxx⟩)] at hen4
   simp only [erO] at hen4
   have hnn:∀ l,l = (L ++ [(fmO ob,(⟨ra,rb,rc⟩:SL),(⟨rd,re,rf⟩:SL))]).map (·.1) -> ∀ f ∈ l,nodesF f <= 1000000:=fun l hl f hf => by
    rw [hl,List.map_append] at hf
    rcases List.mem_append.1 hf with hf | hf
    ·exact HNN0.out f hf
    ·rw [List.map_singleton,List.mem_singleton] at hf
     subst hf
     exact HEND.out ob k2 rfl
   clear hrun h44
   cases hea:eL M ts x with
   | bad p' e' =>
    have he':=eL_bad (fun k2 e h => by rw [hxx] at h; cases h) hea
    have he1':(e' == 0) = false:=by rcases he' with rfl | rfl <;> rfl
    have he2':(e' != 0) = true:=by rcases he' with rfl | rfl <;> rfl
    have HEA:=hid hea
    rw [hea] at hen4
    simp only [anP,anE] at hen4
    have HEN:=hid hen4
    clear he' hxx hea hen4 hnn
    go_wp2_with (first | (go_at_call 44; ((with_reducible refine HC4.out.mono ?_); rintro _ w9 ⟨rfl,rfl⟩)) | (go_at_call 37; ((with_reducible refine HEN.out.mono ?_); rintro _ w9 ⟨h9,rfl⟩; obtain rfl:=h9.symm; clear h9)))
    refine bodyPost_ret (v:=.tuple #[.slice none 0 0,.int .i64 (p':Int),.int .i64 e']) (by simp [results,Tryz.results18,go_sem]) rfl ?_
    rw [HEA.out]
    exact ⟨HB2.out.trans (HN4.out.hB.mono HB2.out.size),rfl⟩
   | ok l0 =>
    obtain ⟨kz,hz2⟩:=eL_ok hea
    rw [hxx] at hz2
    have hl0:l0 = L.map (·.1) ++ [fmO ob]:=by cases hz2; rfl
    have hres:∀ {l},l = (L ++ [(fmO ob,(⟨ra,rb,rc⟩:SL),(⟨rd,re,rf⟩:SL))]).map (·.1) -> eL M ts x = .ok l:=fun hl => by
     rw [hea,hl,List.map_append,hl0]; rfl
    rw [hea] at hen4
    simp only [anP,anE] at hen4
    have HEN:=hid hen4
    clear hz2 hl0 hxx hea hen4
    obtain ⟨sv,hsv,hsf⟩:=HN4.out.value (by simp)
    obtain ⟨a,n',c'⟩:=sv
    simp only [SL.v] at hsv
    subst hsv
    obtain ⟨l,hl⟩:∃ l:List Fm,l = (L ++ [(fmO ob,(⟨ra,rb,rc⟩:SL),(⟨rd,re,rf⟩:SL))]).map (·.1):=⟨_,rfl⟩
    rw [<- hl] at hsf
    have HRES:=hid (hres hl)
    have HNN:Hid (∀ f ∈ l,nodesF f <= 1000000):=hid (hnn l hl)
    have hlen:=hsf.len
    simp only at hlen
    have hn4:n' <= 100000:=by rw [hlen,hl]; simp; have:=HNL.out; omega
    have HLEN2:=hid hlen
    have HV:=hid hsf
    have HB4:=hid HN4.out.hB
    clear hsf hlen hl HN4 hres hnn
    go_wp2_with (first | (go_at_call 44; ((with_reducible refine HC4.out.mono ?_); rintro _ w9 ⟨rfl,rfl⟩)) | (go_at_call 37; ((with_reducible refine HEN.out.mono ?_); rintro _ w9 ⟨h9,rfl⟩; obtain rfl:=h9.symm; clear h9)))
    go_loopw [14] (fun i wr => ∃ j:Nat,j <= n' /\ i = .int .i64 j /\ Below w4.heap.size w4 wr /\ (∀ k,k < j -> ∀ f,l[k]? = some f -> rightF f = true)) (fun i _ => n' - (intOf i).toNat)
    case atStart => exact ⟨0,by omega,rfl,Below.refl _ _,fun k hk => absurd hk (Nat.not_lt_zero k)⟩
    case round =>
     obtain ⟨j,hj,rfl,hB,hall⟩:=hrel
     have HALL:=hid hall
     have HB:=hid hB
     have HBW:=hid ((HB2.out.trans (HB4.out.mono HB2.out.size)).trans (hB.mono (HB2.out.trans (HB4.out.mono HB2.out.size)).size))
     clear hall
     by_cases hjn:(j:Int) < (n':Int)
     ·have b0:(0:Int) <= (j:Int):=by omega
      obtain ⟨q,hq⟩:∃ q,l[j]? = some q:=⟨_,List.getElem?_eq_getElem (by rw [<- HLEN2.out]; omega)⟩
      have hp:=HV.out.turn (T:=SN wr) (W':=wr) fun k hk => ⟨Nat.lt_of_lt_of_le hk.2 hB.size,hB.block k hk.2⟩
      obtain ⟨g1,o1,hga⟩:=IsFs.pos HV.out (show 0 < n' by omega)
      subst hga
      obtain ⟨u,d,c0,c1,c2,c3,hu,hd,ho,hz⟩:=fs_at hp hq
      have HQ:=hid hq
      have hcall:=rright_call wr q u d hu hd hz (HNN.out q (List.mem_of_getElem? hq))
      obtain ⟨qo,qn,qa,qs⟩:=q
      obtain ⟨ua,un,uc⟩:=u
      obtain ⟨da,dn,dc⟩:=d
      simp only [FR.Fm.op,FR.Fm.name,FR.Fm.args,FR.Fm.subs,SL.v] at c0 c1 c2 c3 hcall
      obtain ⟨bb,hbb⟩:∃ b,b = rightF (.mk qo qn qa qs):=⟨_,rfl⟩
      rw [<- hbb] at hcall
      have HBB:=hid hbb
      have HCC:=hid hcall
      clear hcall hbb hq hp hu hd hB ho hz
      go_wp2_with (fail)
      go_at_call 45
      with_reducible refine HCC.out.mono ?_
      rintro E w5 ⟨rfl,hB5⟩
      have HB5:=hid (HB.out.trans (hB5.mono HB.out.size))
      clear hB5 c0 c1 c2 c3
      rcases bb with _ | _
      ·go_wp2_with (fail)
       refine bodyPost_ret (v:=.tuple #[.slice none 0 0,.int .i64 0,.int .i64 3]) (by simp [results,Tryz.results18,go_sem]) rfl ?_
       have hr:formsA (eL M ts x) = .bad 0 3:=by
        rw [HRES.out]
        unfold formsA
        simp only []
        rw [if_neg]
        intro hf
        have:=List.all_eq_true.1 hf _ (List.mem_of_getElem? HQ.out)
        rw [<- HBB.out] at this
        cases this
       rw [hr]
       exact ⟨(HB2.out.trans (HB4.out.mono HB2.out.size)).trans (HB5.out.mono (HB2.out.trans (HB4.out.mono HB2.out.size)).size),rfl⟩
      ·go_wp2_with (fail)
       go_roundw
       case rel =>
        refine ⟨j + 1,by omega,by go_num,HB5.out,fun k hk f hf => ?_⟩
        by_cases hkj:k = j
        ·subst hkj
         rw [HQ.out] at hf
         cases hf
         exact HBB.out.symm
        ·exact HALL.out k (by omega) f hf
       case measure => simp [intOf]; omega
     ·obtain rfl:j = n':=by omega
      have hal:l.all rightF = true:=List.all_eq_true.2 fun f hf => by
       obtain ⟨k,hk⟩:=List.mem_iff_getElem?.1 hf
       exact HALL.out k (by rw [HLEN2.out]; exact (List.getElem?_eq_some_iff.1 hk).1) f hk
      have HAL:=hid hal
      clear hal hB
      by_cases h64:(64:Int) < (j:Int)
      ·go_wp2_with (fail)
       refine bodyPost_ret (v:=.tuple #[.slice none 0 0,.int .i64 0,.int .i64 5]) (by simp [results,Tryz.results18,go_sem]) rfl ?_
       have hr:formsA (eL M ts x) = .bad 0 5:=by
        rw [HRES.out]
        unfold formsA
        simp only []
        rw [if_pos HAL.out,if_pos (by rw [<- HLEN2.out]; omega)]
       rw [hr]
       exact ⟨HBW.out,rfl⟩
      ·go_wp2_with (fail)
       refine bodyPost_ret (v:=.tuple #[.slice a j c',.int .i64 0,.int .i64 0]) (by simp [results,Tryz.results18,go_sem]) rfl ?_
       have hr:formsA (eL M ts x) = .ok l:=by
        rw [HRES.out]
        unfold formsA
        simp only []
        rw [if_pos HAL.out,if_neg (by rw [<- HLEN2.out]; omega)]
       rw [hr]
       exact ⟨HBW.out,_,rfl,⟨a,j,c'⟩,rfl,HV.out.turn fun k hk => ⟨⟨Nat.le_trans HB2.out.size hk.1,Nat.lt_of_lt_of_le hk.2 HB.out.size⟩,HB.out.block k hk.2⟩⟩
end Go.Proofs.YtdobflpbkfkmgaaGreatDoor
